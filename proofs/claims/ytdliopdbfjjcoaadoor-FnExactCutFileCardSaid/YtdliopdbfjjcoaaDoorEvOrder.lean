/- A region whose order is drawn. No condition. -/
import Derived.Test.YtdliopdbfjjcoaaDoorEvGame
namespace Go.Proofs.YtdliopdbfjjcoaaDoor.Ev
open Go
set_option linter.unusedSimpArgs false
set_option linter.unusedVariables false

section
variable {X : Nat → Prop} {Wr : Lent} {w0 : World} {B : Nat → Option BI} {S T S2 : St} {a : Act} {w : World} {P : Program} {A : FuncId → Ann} {rf : RF}

theorem At.drawn {n : Nat} (h : At X Wr w0 n S a w) : At X Wr w0 n S a { w with drawn := w.drawn + 1 } := by
  obtain ⟨⟨B, h⟩, hn⟩ := h
  have hI : ∀ b i, B b = some i → ∃ f, B b = some { i with fz := f } := fun b i h => ⟨i.fz, h⟩
  exact ⟨⟨B, { hr := { dom := h.hr.dom, blk := fun b k i hk hi => (h.hr.blk b k i hk hi).mono (Nat.le_refl _) (fun _ => rfl) (fun _ _ _ => rfl) (fun _ h => .inl h) hI, inj := h.hr.inj, notX := h.hr.notX }
               env := fun t => (h.env t).mono (Nat.le_refl _) (fun _ _ _ => rfl) (fun _ h => .inl h) hI, defers := h.defers, mine := h.mine, old := h.old, size := h.size, same := h.same, lowX := h.lowX, os := h.os, tape := h.tape, output := h.output }⟩, hn⟩

theorem filter_lt {p q : Nat → Bool} {i : Nat} : ∀ {l : List Nat}, (∀ x ∈ l, q x = true → p x = true) → i ∈ l → p i = true → q i = false → (l.filter q).length + 1 ≤ (l.filter p).length
  | x :: l, h, hi, hp, hq => by
    have hle : (l.filter q).length ≤ (l.filter p).length := by
      have : ∀ l : List Nat, (∀ x ∈ l, q x = true → p x = true) → (l.filter q).length ≤ (l.filter p).length := by
        intro l
        induction l with
        | nil => intro _; simp
        | cons y l ih =>
          intro h
          have := ih fun x hx => h x (by simp [hx])
          simp only [List.filter_cons]
          cases hq : q y with
          | true => rw [h y (by simp) hq]; simpa using this
          | false => cases p y <;> simp <;> omega
      exact this l fun x hx => h x (by simp [hx])
    simp only [List.filter_cons]
    cases hi with
    | head => rw [hp, hq]; simpa using hle
    | tail _ hi =>
      have := filter_lt (l := l) (fun x hx => h x (by simp [hx])) hi hp hq
      cases hqx : q x with
      | true => rw [h x (by simp) hqx]; simpa using this
      | false => cases p x <;> simp <;> omega

def unl (n : Nat) (listed : Array Bool) : Nat := ((List.range n).filter fun i => !listed.getD i true).length
theorem unl_set {n i : Nat} {listed : Array Bool} (hi : i < n) (hs : i < listed.size) (h : listed.getD i true = false) : unl n (listed.setIfInBounds i true) + 1 ≤ unl n listed := by
  refine filter_lt (i := i) (fun x _ hx => ?_) (List.mem_range.2 hi) (by rw [h]; rfl) ?_
  · by_cases e : i = x
    · subst e; simp [hs] at hx
    · rwa [getD_set_ne true e] at hx
  · simp [hs]

theorem getD_lt {listed : Array Bool} {i : Nat} (hs : i < listed.size) : listed.getD i true = listed.getD i false := by simp [hs]
theorem getD_set {listed : Array Bool} {i j : Nat} (hs : i < listed.size) : (listed.setIfInBounds i true).getD j false = true ↔ listed.getD j false = true ∨ j = i := by
  by_cases e : i = j
  · subst e; simp [hs]
  · rw [getD_set_ne false e]
    exact ⟨.inl, fun h => h.elim id fun h => absurd h.symm e⟩

/-- One operation in the text's order. -/
theorem ostep_wp {dr : Bool} {n i : Nat} {Q : Exit → Act → World → Prop} {ops : Array Oper} {o : Oper} {l : List Oper} {S' : St} {K : Act → World → Prop} (hf : AllFit P A rf) (ho : ops[i]? = some o) (hok : okOper n o = true) (h : At X Wr w0 n S a w) (hs : opsV P A rf ops.toList dr (o :: l) S = some S')
    (hK : ∀ U a w, opsV P A rf ops.toList (dr && !isE o.op) l U = some S' → At X Wr w0 n U a w → K a w) : wpOp P ops Q i K a w := by
  have one : ∀ {S1 : St}, At X Wr w0 n S1 a w → (stepV P A rf (dr && !isE o.op) S1 o).bind (opsV P A rf ops.toList (dr && !isE o.op) l) = some S' → o.wp P a w K Q := fun h1 h2 => by
    obtain ⟨U, h3, h4⟩ := bind_iff.1 h2
    exact Oper.wp_mono (fun a w h5 => hK U a w h4 h5) (stepV_wp h1 hok hf h3)
  have skip : ∀ {S1 : St}, At X Wr w0 n S1 a w → At X Wr w0 n (S1.putO o.dst .no) (a.put o.dst undef) w := fun {S1} h1 => by
    obtain ⟨⟨B, h1⟩, hn⟩ := h1
    refine ⟨⟨B, h1.putO (fun t ht => ?_) (.cl _ _ .no)⟩, by rw [put_size, hn]⟩
    unfold okOper at hok
    rw [ht] at hok
    rw [hn]
    exact Nat.blt_eq ▸ hok
  unfold wpOp
  rw [ho]
  dsimp only
  unfold opsV at hs
  cases hg : o.guard with
  | none =>
    rw [hg] at hs
    have hw : Region.wanted o (yielded ops a.tmps) = true := by unfold Region.wanted; rw [hg]
    rw [if_pos hw]
    exact .inl (one h hs)
  | some g =>
    rw [hg] at hs
    obtain ⟨⟨t, b⟩, hgv, hs⟩ := bind_iff.1 hs
    obtain ⟨hy, hb⟩ := guardV_rel h hgv
    have hw : Region.wanted o (yielded ops a.tmps) = (b == some g.2) := by
      unfold Region.wanted
      rw [hg]
      dsimp only
      rw [hy]
    rw [hw]
    cases b with
    | none =>
      rw [if_neg (by simp)]
      exact hK _ _ _ hs (skip h)
    | some c =>
      dsimp only at hs
      have hsay : At X Wr w0 n (S.put t (.bool c)) a w := by
        obtain ⟨⟨B, h1⟩, hn⟩ := h
        exact ⟨⟨B, h1.say (by rw [hb c rfl]; exact .cl _ _ (.bool c))⟩, hn⟩
      split at hs
      · rename_i e
        subst e
        rw [if_pos (by simp)]
        exact .inl (one hsay hs)
      · rename_i e
        rw [if_neg (by simpa using e)]
        have : (!g.2) = c := by cases c <;> cases hgg : g.2 <;> simp_all
        rw [this] at hs
        exact hK _ _ _ hs (skip hsay)

theorem mem_edges {ops : Array Oper} {i j : Nat} {o : Oper} (ho : ops[i]? = some o) : j ∈ edges ops i ↔ ∃ e ∈ o.after, Region.binds .any e = true ∧ e.on = j := by
  unfold edges
  rw [ho]
  simp only [List.mem_map, List.mem_filter, Array.mem_toList_iff]
  constructor
  · rintro ⟨e, ⟨h1, h2⟩, h3⟩; exact ⟨e, h1, h2, h3⟩
  · rintro ⟨e, h1, h2, h3⟩; exact ⟨e, ⟨h1, h2⟩, h3⟩

/-- What is ready. -/
theorem ready_spec {ops : Array Oper} {listed : Array Bool} (hs : listed.size = ops.size) {i : Nat} : i ∈ Region.ready .any ops listed ↔ listed.getD i false = false ∧ i < ops.size ∧ ∀ j ∈ edges ops i, listed.getD j false = true := by
  rw [mem_ready]
  constructor
  · rintro ⟨h1, o, ho, h2⟩
    have hlt := (Array.getElem?_eq_some_iff.1 ho).1
    refine ⟨by rw [← getD_lt (by omega)]; exact h1, hlt, fun j hj => ?_⟩
    obtain ⟨e, g1, g2, g3⟩ := (mem_edges ho).1 hj
    rw [← g3]
    exact h2 e g1 g2
  · rintro ⟨h1, hlt, h2⟩
    have ho := Array.getElem?_eq_getElem hlt
    exact ⟨by rw [getD_lt (by omega)]; exact h1, _, ho, fun e g1 g2 => h2 e.on ((mem_edges ho).2 ⟨e, g1, g2, rfl⟩)⟩

/-- Where nothing is ready, all is done. -/
theorem ready_nil {e : Op → Bool} {ops : Array Oper} (hd : okDraw e ops = true) {listed : Array Bool} (hs : listed.size = ops.size) (h : Region.ready .any ops listed = []) : ∀ i, i < ops.size → listed.getD i false = true := by
  intro i
  induction i using Nat.strongRecOn with
  | _ i ih =>
    intro hi
    cases hh : listed.getD i false with
    | true => rfl
    | false =>
      have ho := Array.getElem?_eq_getElem hi
      have : i ∈ Region.ready .any ops listed := (ready_spec hs).2 ⟨hh, hi, fun j hj => ih j ((okDraw_spec hd ho).1 j hj) (by have := (okDraw_spec hd ho).1 j hj; omega)⟩
      rw [h] at this
      simp at this

/-- An operation that comes after all before it is not ready ahead of them. -/
theorem ready_late {e : Op → Bool} {ops : Array Oper} (hd : okDraw e ops = true) {listed : Array Bool} (hs : listed.size = ops.size) (hcl : ∀ j, listed.getD j false = true → ∀ q ∈ edges ops j, listed.getD q false = true) {i m : Nat} {o : Oper} (hm : m ≤ i) (ho : ops[m]? = some o) (he : e o.op = true) (hr : i ∈ Region.ready .any ops listed) : ∀ j, j < i → listed.getD j false = true := by
  obtain ⟨h1, h2, h3⟩ := (ready_spec hs).1 hr
  have hspec := (okDraw_spec hd (Array.getElem?_eq_getElem h2)).2.2
  have hall : ∀ j, j < i → ∃ m, j < m ∧ m ≤ i ∧ j ∈ edges ops m := by
    rcases hspec with h | h
    · have := h m hm
      unfold calmAt at this
      rw [ho] at this
      dsimp only at this
      rw [he] at this
      cases this
    · exact h
  have key : ∀ d j, j + d + 1 = i → listed.getD j false = true := by
    intro d
    induction d using Nat.strongRecOn with
    | _ d ih =>
      intro j hj
      obtain ⟨q, g1, g2, g3⟩ := hall j (by omega)
      by_cases e : q = i
      · subst e; exact h3 j g3
      · exact hcl q (ih (i - q - 1) (by omega) q (by omega)) j g3
  exact fun j hj => key (i - j - 1) j (by omega)

theorem tail_wp {e : Op → Bool} {n m : Nat} {Q : Exit → Act → World → Prop} {ops : Array Oper} {S' : St} (hd : okDraw e ops = true) (hf : AllFit P A rf) (hok : ∀ o ∈ ops.toList, okOper n o = true) (hQ : ∀ a w, At X Wr w0 n S' a w → Q .normal a w) (hE : ∀ o, ops[m]? = some o → e o.op = true) :
    ∀ (fuel k : Nat) (dr : Bool) (listed : Array Bool) (S : St) (a : Act) (w : World), m ≤ k → k ≤ ops.size → ops.size ≤ k + fuel → listed.size = ops.size → (∀ j, listed.getD j false = true ↔ j < k) → opsV P A rf ops.toList dr (ops.toList.drop k) S = some S' → At X Wr w0 n S a w → wpAny P .any ops Q fuel listed a w := by
  have fin : ∀ {k : Nat} {dr : Bool} {S : St} {a : Act} {w : World}, ops.size ≤ k → opsV P A rf ops.toList dr (ops.toList.drop k) S = some S' → At X Wr w0 n S a w → Q .normal a w := fun {k dr S a w} hk hs hat => by
    rw [List.drop_of_length_le (by simpa using hk)] at hs
    simp only [opsV, Option.some.injEq] at hs
    subst hs
    exact hQ a w hat
  intro fuel
  induction fuel with
  | zero =>
    intro k dr listed S a w hmk hks hfu hls hl hs hat
    refine ⟨?_, fin (by omega) hs hat⟩
    rw [List.eq_nil_iff_forall_not_mem]
    intro i hi
    obtain ⟨h1, h2, _⟩ := (ready_spec hls).1 hi
    rw [(hl i).2 (by omega)] at h1
    cases h1
  | succ fuel ih =>
    intro k dr listed S a w hmk hks hfu hls hl hs hat
    refine ⟨fun hr => ?_, fun i hi => ?_⟩
    · refine fin ?_ hs hat
      rcases Nat.lt_or_ge k ops.size with h | h
      · have := (hl k).1 (ready_nil hd hls hr k h)
        omega
      · exact h
    · obtain ⟨h1, h2, h3⟩ := (ready_spec hls).1 hi
      have hik : k ≤ i := by
        rcases Nat.lt_or_ge i k with h | h
        · rw [(hl i).2 h] at h1; cases h1
        · exact h
      have hm : m < ops.size := by omega
      have hlate := ready_late hd hls (fun j hj q hq => by
        have hjk := (hl j).1 hj
        have := (okDraw_spec hd (Array.getElem?_eq_getElem (show j < ops.size by omega))).1 q hq
        exact (hl q).2 (by omega)) (show m ≤ i by omega) (Array.getElem?_eq_getElem hm) (hE _ (Array.getElem?_eq_getElem hm)) hi
      have hki : i = k := by
        rcases Nat.lt_or_ge k i with h | h
        · have := (hl k).1 (hlate k h); omega
        · omega
      subst hki
      have ho := Array.getElem?_eq_getElem h2
      have hdrop : ops.toList.drop i = ops[i] :: ops.toList.drop (i + 1) := by
        rw [List.drop_eq_getElem_cons (by simpa using h2)]
        simp
      rw [hdrop] at hs
      refine ostep_wp hf ho (hok _ (by simp)) hat hs fun U a w hs' hat' => ih (i + 1) _ _ U a w (by omega) (by omega) (by omega) (by simpa using hls) (fun j => ?_) hs' hat'
      rw [getD_set (by omega), hl j]
      omega

theorem head_wp {e : Op → Bool} {n m : Nat} {Q : Exit → Act → World → Prop} {ops : Array Oper} {S0 S' : St} {Ts : Nat → St} {xs : Nat → AV} {nbs : Nat → List (Nat × Blk)} (hd : okDraw e ops = true) (hf : AllFit P A rf) (hok : ∀ o ∈ ops.toList, okOper n o = true) (hQ : ∀ a w, At X Wr w0 n S' a w → Q .normal a w) (hms : m ≤ ops.size) (hE : ∀ o, ops[m]? = some o → e o.op = true)
    (hs : opsV P A rf ops.toList true (ops.toList.drop m) (Ts m) = some S') (hI : ∀ i, i ≤ m → Inv S0 (dstOf ops) xs nbs (· < i) (Ts i)) (h0 : ∀ i, i < m → ∀ y k, hlook (nbs i) y = some k → hlook S0.hp y = none)
    (hn : ∀ i j, i < m → j < m → i ≠ j → ∀ y k, hlook (nbs i) y = some k → hlook (nbs j) y = none) (hA : ∀ i o, i < m → ops[i]? = some o → Alike P A rf ops.toList (Ts i) o (xs i) (nbs i)) :
    ∀ (fuel : Nat) (listed : Array Bool) (S : St) (a : Act) (w : World), unl ops.size listed ≤ fuel → listed.size = ops.size → (∀ j, listed.getD j false = true → j < m) → (∀ j, listed.getD j false = true → ∀ q ∈ edges ops j, listed.getD q false = true) → Inv S0 (dstOf ops) xs nbs (fun j => listed.getD j false = true) S → At X Wr w0 n S a w → wpAny P .any ops Q fuel listed a w := by
  have turn : ∀ {fuel : Nat} {listed : Array Bool} {S : St} {a : Act} {w : World}, ops.size ≤ m + fuel → listed.size = ops.size → (∀ j, listed.getD j false = true ↔ j < m) → Inv S0 (dstOf ops) xs nbs (fun j => listed.getD j false = true) S → At X Wr w0 n S a w → wpAny P .any ops Q fuel listed a w := fun {fuel listed S a w} hfu hls hl hS hat => by
    have hS' : Inv S0 (dstOf ops) xs nbs (· < m) S := ⟨fun i hi => hS.g1 i ((hl i).2 hi), fun t ht => hS.g2 t fun i hi => ht i ((hl i).1 hi), fun i hi => hS.h1 i ((hl i).2 hi), fun y hy => hS.h2 y fun i hi => hy i ((hl i).1 hi)⟩
    obtain ⟨e1, e2⟩ := hS'.same (hI m (Nat.le_refl _))
    exact tail_wp hd hf hok hQ hE fuel m true listed (Ts m) a w (Nat.le_refl _) hms hfu hls hl hs (hat.ext e1 e2)
  intro fuel
  induction fuel with
  | zero =>
    intro listed S a w hfu hls hlm hcl hS hat
    have hall : ∀ j, j < ops.size → listed.getD j false = true := fun j hj => by
      cases hh : listed.getD j false with
      | true => rfl
      | false =>
        have : j ∈ (List.range ops.size).filter fun i => !listed.getD i true := List.mem_filter.2 ⟨List.mem_range.2 hj, by rw [getD_lt (by omega), hh]; rfl⟩
        have h0 : ((List.range ops.size).filter fun i => !listed.getD i true) = [] := List.eq_nil_of_length_eq_zero (by unfold unl at hfu; omega)
        rw [h0] at this
        simp at this
    have hm : m = ops.size := by
      rcases Nat.lt_or_ge m ops.size with h | h
      · have := hlm m (hall m h); omega
      · omega
    exact turn (by omega) hls (fun j => ⟨hlm j, fun h => hall j (by omega)⟩) hS hat
  | succ fuel ih =>
    intro listed S a w hfu hls hlm hcl hS hat
    by_cases hall : ∀ j, j < m → listed.getD j false = true
    · refine turn ?_ hls (fun j => ⟨hlm j, hall j⟩) hS hat
      have : ops.size ≤ m + unl ops.size listed := by
        have hge : ∀ N, N ≤ m + ((List.range N).filter fun i => !listed.getD i true).length ∨ ops.size < N := by
          intro N
          induction N with
          | zero => exact .inl (by omega)
          | succ N ih =>
            by_cases hN : ops.size < N + 1
            · exact .inr hN
            · rcases ih with h | h
              · left
                rw [List.range_succ, List.filter_append, List.length_append]
                by_cases hNm : N < m
                · omega
                · have : listed.getD N true = false := by
                    rw [getD_lt (by omega)]
                    cases hh : listed.getD N false with
                    | false => rfl
                    | true => have := hlm N hh; omega
                  simp only [List.filter_cons, this, Bool.not_false, if_true, List.filter_nil, List.length_cons, List.length_nil]
                  omega
              · exact absurd h (by omega)
        rcases hge ops.size with h | h
        · exact h
        · omega
      omega
    · refine ⟨fun hr => absurd (fun j hj => ready_nil hd hls hr j (by omega)) hall, fun i hi => ?_⟩
      obtain ⟨h1, h2, h3⟩ := (ready_spec hls).1 hi
      have him : i < m := by
        rcases Nat.lt_or_ge i m with h | h
        · exact h
        · exfalso
          have hm : m < ops.size := by omega
          have hlate := ready_late hd hls hcl h (Array.getElem?_eq_getElem hm) (hE _ (Array.getElem?_eq_getElem hm)) hi
          exact hall fun j hj => hlate j (by omega)
      have ho := Array.getElem?_eq_getElem h2
      obtain ⟨⟨B, hrb⟩, hsz⟩ := hat
      obtain ⟨T, t1, t2⟩ := ready_step hd hI h0 hn him ho (hA i _ him ho) hrb hS hlm (by rw [h1]; simp) h3 hcl
      refine gstep_wp hf ho (hok _ (by simp)) ⟨⟨B, hrb⟩, hsz⟩ t1 fun a w hat' => ih _ T a w ?_ (by simpa using hls) (fun j hj => ?_) (fun j hj q hq => ?_) ?_ hat'
      · have := unl_set (n := ops.size) (listed := listed) h2 (by omega) (by rw [getD_lt (by omega)]; exact h1)
        omega
      · rcases (getD_set (listed := listed) (i := i) (by omega)).1 hj with h | rfl
        · exact hlm j h
        · exact him
      · rw [getD_set (by omega)]
        rcases (getD_set (listed := listed) (i := i) (by omega)).1 hj with h | rfl
        · exact .inl (hcl j h q hq)
        · exact .inl (h3 q hq)
      · exact ⟨fun j hj => t2.g1 j ((getD_set (listed := listed) (i := i) (by omega)).1 hj), fun t ht => t2.g2 t fun j hj => ht j ((getD_set (listed := listed) (i := i) (by omega)).2 hj), fun j hj => t2.h1 j ((getD_set (listed := listed) (i := i) (by omega)).1 hj), fun y hy => t2.h2 y fun j hj => hy j ((getD_set (listed := listed) (i := i) (by omega)).2 hj)⟩

theorem draw_wp {n id : Nat} {Q : Exit → Act → World → Prop} {ops : Array Oper} {S' : St} (hm : P.follows .mixedOrders = true) (hf : AllFit P A rf) (hok : ∀ o ∈ ops.toList, okOper n o = true) (hd : okDraw isE ops = true) (hs : opsV P A rf ops.toList true ops.toList S = some S') (h : At X Wr w0 n S a w)
    (hQ : ∀ a w, At X Wr w0 n S' a w → Q .normal a w) : (Code.region id ops true).wp P Q a w := by
  refine wp_region_any hm ?_
  obtain ⟨m, Ts, g1, g2, g3, g4, g5, g6⟩ := text_run (ops := ops) ops.toList 0 S (fun j => by rw [Nat.zero_add, Array.getElem?_toList]) hs
  obtain ⟨xs, nbs, o1, o2, o3, o4⟩ := outcomes hd g1 fun i hi => g4 i (by omega) hi
  have hno : ∀ j, ¬ (Array.replicate ops.size false).getD j false = true := fun j => by
    by_cases hj : j < ops.size <;> simp [hj]
  refine head_wp hd hf hok hQ (by simpa using g3) g6 (by simpa using g5) o1 o2 o3 o4 ops.size _ S a _ ?_ (by simp) (fun j hj => absurd hj (hno j)) (fun j hj => absurd hj (hno j)) (Inv.nil hno) h.drawn
  unfold unl
  exact Nat.le_trans (List.length_filter_le _ _) (by simp)
end
end Go.Proofs.YtdliopdbfjjcoaaDoor.Ev
