/- slices.Insert of one file among others, as a function of values. No condition. -/
import Derived.Test.YtcdojakgoogonaaDoorLInsert2
namespace Go.Proofs.YtcdojakgoogonaaDoor.Ev
open Go
set_option linter.unusedSimpArgs false
set_option linter.unusedVariables false
set_option maxRecDepth 10000
set_option maxHeartbeats 4000000

/-- The cells of a run of a block. -/
def rowOf (w : World) (c o n : Nat) : List Value := (List.range n).map fun p => (w.cell? ⟨c, o + p, none⟩).getD undef
theorem rowOf_len (w : World) (c o n : Nat) : (rowOf w c o n).length = n := by simp [rowOf]
theorem rowOf_at {w : World} {c o n p : Nat} {v : Value} (h : w.cell? ⟨c, o + p, none⟩ = some v) (hp : p < n) : (rowOf w c o n)[p]? = some v := by
  unfold rowOf
  rw [List.getElem?_map, List.getElem?_range hp]
  simp [h]
theorem rowOf_get {w : World} {c o n p : Nat} {v : Value} (h : (rowOf w c o n)[p]? = some v) (hl : ∀ p, p < n → ∃ u, w.cell? ⟨c, o + p, none⟩ = some u) : w.cell? ⟨c, o + p, none⟩ = some v := by
  have hp : p < n := by rw [← rowOf_len w c o n]; exact (List.getElem?_eq_some_iff.1 h).1
  obtain ⟨u, hu⟩ := hl p hp
  rw [rowOf_at hu hp] at h
  rw [hu, h]
theorem ins_at {α : Type} (xs : List α) (y : α) (i : Nat) (hi : i ≤ xs.length) (q : Nat) : (xs.take i ++ y :: xs.drop i)[q]? = if q < i then xs[q]? else if q = i then some y else xs[q - 1]? := by
  have hl : (xs.take i).length = i := by rw [List.length_take]; omega
  by_cases h : q < i
  · rw [if_pos h, List.getElem?_append_left (by omega), List.getElem?_take, if_pos h]
  · rw [if_neg h, List.getElem?_append_right (by omega), hl]
    by_cases he : q = i
    · rw [if_pos he, he, Nat.sub_self]
      rfl
    · rw [if_neg he]
      obtain ⟨d, rfl⟩ : ∃ d, q = i + d + 1 := ⟨q - i - 1, by omega⟩
      rw [show i + d + 1 - i = d + 1 by omega, List.getElem?_cons_succ, List.getElem?_drop, show i + d + 1 - 1 = i + d by omega]
def insertP : List AV → Option (AV × List (List AV))
  | [.fr 3 true xs, .int .i64 n, .fr 3 true [y]] => if flatXs 3 xs = true ∧ flatXs 3 [y] = true ∧ 0 ≤ n ∧ n ≤ xs.length ∧ xs.length ≤ 1000 then some (.fr 3 true (xs.take n.toNat ++ y :: xs.drop n.toNat), [[], []]) else none
  | _ => none
theorem ins_run (xs : List AV) (y : AV) (h : xs.length ≤ 1000) : RunF Tryd.prog ann native2 53 [.fr 3 true xs, .int .i64 (xs.length : Nat), .fr 3 true [y]] = some (.fr 3 true (xs ++ [y]), [[], []]) := by
  have hl : xs.length + 1 ≤ 1099511627776 := by omega
  rw [RunF_D (prim := native2) (f := 53) (by rfl) Tryd.func53 rfl (by kernel_rfl)]
  simp only [go_sem, ↓reduceIte, Nat.reduceAdd, Nat.reduceSub, Nat.reduceMul, Nat.reduceBEq, Nat.reduceEqDiff, Nat.reduceLeDiff, Nat.reduceLT, Nat.reducePow, Nat.reduceDiv, Nat.reduceMod, Int.reduceToNat, Int.reduceLE, Int.reduceLT, Int.reduceMul, Int.reduceAdd, Int.reduceNeg, and_true, true_and, and_self, Bool.true_eq_false, Int.natCast_one, Int.natCast_zero, Int.cast_ofNat_Int, Int.reduceEq, not_true_eq_false, not_false_eq_true, reduceCtorEq, Nat.le_refl, Int.le_refl, Nat.lt_irrefl, Int.lt_irrefl, Nat.sub_zero, or_false, false_or, or_true, true_or, List.take_length, gt_iff_lt, ge_iff_le, hl]
  done
/-- The row with one element more, as a block. -/
theorem ins_blk {w : World} {O : Nat → Prop} {L : List AV} {c o sz : Nat} (hL : ∀ x ∈ L, x.cells.length = 3 ∧ x.noMem = true ∧ x.closed = true) (hc : c < w.heap.size) (hfit : o + L.length * 3 ≤ sz)
    (hlive : ∀ p, p < sz → ∃ u, w.cell? ⟨c, p, none⟩ = some u) (hfree : ∀ p, w.frozen? ⟨c, p, none⟩ = false)
    (hval : ∀ (q : Nat) x (j : Nat) y, L[q]? = some x → x.cells[j]? = some y → ∃ v, w.cell? ⟨c, o + q * 3 + j, none⟩ = some v ∧ v.oneCell' = true ∧ ∃ w0 O0, RelC w0 O0 y v) :
    HBlk w O noB ⟨3, true, false, L, true⟩ ⟨L.length, 3, c, o, sz, false, false, false⟩ where
  n := rfl
  e := fun _ => rfl
  fz := rfl
  bx := rfl
  one := fun h => by cases h
  cl := fun _ x hx => (hL x hx).2.2
  empty := fun h => by cases h
  lt := fun _ => hc
  fit := fun _ => hfit
  live := fun _ => hlive
  free := fun _ p _ => hfree p
  ord := fun _ h => by simp at h
  elem := fun _ q x hx => ⟨(hL x (List.mem_of_getElem? hx)).1, fun _ => (hL x (List.mem_of_getElem? hx)).2.1⟩
  cell := fun _ q x j y hx hy => by
    obtain ⟨v, h1, h2, w0, O0, h3⟩ := hval q x j y hx hy
    exact ⟨v, h1, h2, .cl _ _ (h3.noMem (cells_noMem (hL x (List.mem_of_getElem? hx)).2.1 hy) w O)⟩
theorem ins_fits (xs : List AV) (q : AV × List (List AV)) (hg : insertP xs = some q) : Fits Tryd.prog 53 (lentFs (ann 53).modes xs) xs q.1 q.2 := by
  unfold insertP at hg
  split at hg
  · rename_i ys k y
    split at hg
    · rename_i hc
      obtain ⟨hfl, hfy, h0, hle, hlen⟩ := hc
      cases hg
      obtain ⟨i, rfl⟩ := Int.eq_ofNat_of_zero_le h0
      have hle' : i ≤ ys.length := by omega
      simp only [Int.toNat_natCast]
      by_cases he : i = ys.length
      · subst he
        have := RunF_fits (show Tryd.prog.follows .mixedOrders = true by kernel_rfl) native2_fits (ins_run ys y hlen)
        simpa using this
      have hi : i < ys.length := by omega
      clear hle h0 he
      have hm := flatXs_mem hfl
      have hmy := flatXs_mem hfy
      intro w X is vs hX hF hap hno
      obtain ⟨i1, i2, v, us, rfl, rfl, ⟨bi, rfl, hown, hb⟩, j1, j2, u, ts, rfl, rfl, ⟨rfl, h2⟩, k1, k2, v3, us3, rfl, rfl, ⟨bj, rfl, hownj, hbj⟩, rfl, rfl⟩ := hF
      cases h2
      refine .inl ⟨callFunc_run Tryd.func53 rfl (by kernel_rfl) _ w, ?_⟩
      obtain ⟨bn, be, bc, bo, bsz, bnil, bfz, bbx⟩ := bi
      obtain ⟨cn, ce, cc, co, csz, cnil, cfz, cbx⟩ := bj
      obtain ⟨a, cap, rfl, hbx, hncap, hcapsz, hcapa⟩ := hown
      obtain ⟨a', cap', rfl, hbx', hncap', hcapsz', hcapa'⟩ := hownj
      simp only at hbx hncap hcapsz hcapa hbx' hncap' hcapsz' hcapa'
      have hnn : bnil = false := by
        cases h : bnil with
        | false => rfl
        | true => have := (hb.empty h).1; simp only at this; rw [this] at hi; simp at hi
      have hnn' : cnil = false := by
        cases h : cnil with
        | false => rfl
        | true => have := (hbj.empty h).1; simp at this
      subst hnn hnn'
      obtain rfl : 3 = be := hb.e rfl
      obtain rfl : 3 = ce := hbj.e rfl
      obtain rfl : ys.length = bn := hb.n
      obtain rfl : 1 = cn := hbj.n
      obtain ⟨_, rfl⟩ := hcapa (by omega)
      obtain ⟨_, rfl⟩ := hcapa' (by omega)
      have hcs3 := hcapsz rfl
      have hcs3' := hcapsz' rfl
      have hne : cc ≠ bc := fun e => by
        have := hap 0 1 _ _ rfl rfl rfl rfl e.symm
        omega
      have hlv : ∀ p, p < bsz → ∃ u, w.cell? ⟨bc, p, none⟩ = some u := hb.live rfl
      have hlv' : ∀ p, p < csz → ∃ u, w.cell? ⟨cc, p, none⟩ = some u := hbj.live rfl
      have hfr : ∀ p, w.frozen? ⟨bc, p, none⟩ = false := fun p => hb.free rfl p (.inr (by simp))
      have hfr' : ∀ p, w.frozen? ⟨cc, p, none⟩ = false := fun p => hbj.free rfl p (.inr (by simp))
      have hbl : bc < w.heap.size := hb.lt rfl
      have hA : ∀ (q : Nat) x (j : Nat) z, ys[q]? = some x → x.cells[j]? = some z → j < 3 ∧ ∃ v, w.cell? ⟨bc, bo + (q * 3 + j), none⟩ = some v ∧ v.oneCell' = true ∧ ∃ w0 O0, RelC w0 O0 z v := fun q x j z hx hz => by
        obtain ⟨v, g1, g2, g3⟩ := hb.cell rfl q x j z hx hz
        have hxm := hm x (List.mem_of_getElem? hx)
        refine ⟨by rw [← hxm.1]; exact (List.getElem?_eq_some_iff.1 hz).1, v, by rw [← Nat.add_assoc]; exact g1, g2, _, _, g3.closed (cells_closed hxm.2.2 hz)⟩
      have hB : ∀ (j : Nat) z, y.cells[j]? = some z → j < 3 ∧ ∃ v, w.cell? ⟨cc, co + j, none⟩ = some v ∧ v.oneCell' = true ∧ ∃ w0 O0, RelC w0 O0 z v := fun j z hz => by
        obtain ⟨v, g1, g2, g3⟩ := hbj.cell rfl 0 y j z rfl hz
        have hxm := hmy y (by simp)
        refine ⟨by rw [← hxm.1]; exact (List.getElem?_eq_some_iff.1 hz).1, v, by simpa using g1, g2, _, _, g3.closed (cells_closed hxm.2.2 hz)⟩
      -- the cells, as lists
      obtain ⟨cs, hcs⟩ : ∃ cs, cs = rowOf w bc bo (ys.length * 3) := ⟨_, rfl⟩
      obtain ⟨vs, hvs⟩ : ∃ vs, vs = rowOf w cc co (1 * 3) := ⟨_, rfl⟩
      have hcl : cs.length = ys.length * 3 := by rw [hcs, rowOf_len]
      have hvl : vs.length = 1 * 3 := by rw [hvs, rowOf_len]
      have hcc : ∀ (j : Nat) v, cs[j]? = some v → w.cell? ⟨bc, bo + j, none⟩ = some v := fun j v h => rowOf_get (by rw [hcs] at h; exact h) fun p hp => hlv _ (by omega)
      have hvc : ∀ (j : Nat) v, vs[j]? = some v → w.cell? ⟨cc, co + j, none⟩ = some v := fun j v h => rowOf_get (by rw [hvs] at h; exact h) fun p hp => hlv' _ (by omega)
      have hca : ∀ {j : Nat} {v}, w.cell? ⟨bc, bo + j, none⟩ = some v → j < ys.length * 3 → cs[j]? = some v := fun h hj => by rw [hcs]; exact rowOf_at h hj
      have hva : ∀ {j : Nat} {v}, w.cell? ⟨cc, co + j, none⟩ = some v → j < 3 → vs[j]? = some v := fun h hj => by rw [hvs]; exact rowOf_at h (by omega)
      have h1c : ∀ v ∈ cs, v.oneCell' = true := fun v hv => by
        obtain ⟨p, hp⟩ := List.getElem?_of_mem hv
        have hpl : p < ys.length * 3 := by rw [← hcl]; exact (List.getElem?_eq_some_iff.1 hp).1
        obtain ⟨x, hx⟩ : ∃ x, ys[p / 3]? = some x := ⟨_, List.getElem?_eq_getElem (by omega)⟩
        obtain ⟨z, hz⟩ : ∃ z, x.cells[p % 3]? = some z := ⟨_, List.getElem?_eq_getElem (by rw [(hm x (List.mem_of_getElem? hx)).1]; omega)⟩
        obtain ⟨_, v', g1, g2, _⟩ := hA _ x _ z hx hz
        rw [show p / 3 * 3 + p % 3 = p by omega, hcc p v hp] at g1
        cases g1
        exact g2
      have h1v : ∀ v ∈ vs, v.oneCell' = true := fun v hv => by
        obtain ⟨p, hp⟩ := List.getElem?_of_mem hv
        have hpl : p < 1 * 3 := by rw [← hvl]; exact (List.getElem?_eq_some_iff.1 hp).1
        obtain ⟨z, hz⟩ : ∃ z, y.cells[p]? = some z := ⟨_, List.getElem?_eq_getElem (by rw [(hmy y (by simp)).1]; omega)⟩
        obtain ⟨_, v', g1, g2, _⟩ := hB _ z hz
        rw [hvc p v hp] at g1
        cases g1
        exact g2
      have hat := ins_at ys y i (by omega)
      have hLl : (ys.take i ++ y :: ys.drop i).length = ys.length + 1 := by simp only [List.length_append, List.length_cons, List.length_take, List.length_drop]; omega
      have hL : ∀ x ∈ ys.take i ++ y :: ys.drop i, x.cells.length = 3 ∧ x.noMem = true ∧ x.closed = true := fun x hx => by
        rcases List.mem_append.1 hx with hx | hx
        · exact hm x (List.mem_of_mem_take hx)
        · rcases List.mem_cons.1 hx with rfl | hx
          · exact hmy x (by simp)
          · exact hm x (List.mem_of_mem_drop hx)
      by_cases hroom : ys.length + 1 ≤ cap
      · -- there is room
        obtain ⟨u0, hu0⟩ := hlv bo (by omega)
        obtain ⟨u1, hu1⟩ := hlv' co (by omega)
        have shp : ∀ {c p : Nat} {u : Value}, w.cell? ⟨c, p, none⟩ = some u → ∃ t k, w.shape? c = some (t, k) ∧ k ≠ 0 := fun {c p u} h => by
          unfold World.cell? at h
          unfold World.shape?
          cases ho : w.heap[c]? with
          | none => rw [ho] at h; simp at h
          | some ob =>
            cases ob with
            | cells C t m =>
              rw [ho] at h
              simp at h
              exact ⟨_, _, rfl, fun e => by rw [Array.getElem?_eq_none (by omega)] at h; cases h⟩
            | _ => rw [ho] at h; simp at h
        obtain ⟨tB, kB, hsb, hkB⟩ := shp hu0
        obtain ⟨tA, kA, hsa, _⟩ := shp hu1
        refine (ins_shift bc bo ys.length cap i cc co 1 cap' cs vs w hi (by omega) hroom (by omega) hne hcl hvl hcc (fun j hj => by obtain ⟨u, hu⟩ := hlv (bo + j) (by omega); rw [hu]; rfl) (fun j hj => hfr _) hvc h1c h1v tA tB kA kB hsa hsb hkB (hfr' _) (hfr' _)).mono fun e w' he => ?_
        obtain ⟨rfl, hw'⟩ := he
        obtain ⟨D, hD⟩ : ∃ D, D = w.drew.setCells bc (bo + (i + 1) * 3) (cs.drop (i * 3)) := ⟨_, rfl⟩
        rw [← hD] at hw'
        obtain ⟨s1, s2, s3, s4, s5⟩ := setCells_heap bc (cs.drop (i * 3)) (bo + (i + 1) * 3) w.drew
        obtain ⟨t1, t2, t3, t4, t5⟩ := setCells_heap bc vs (bo + i * 3) D
        rw [← hD] at s1 s2 s3 s4 s5
        rw [← hw'] at t1 t2 t3 t4 t5
        have hdl : (cs.drop (i * 3)).length = (ys.length - i) * 3 := by rw [List.length_drop, hcl]; omega
        have hDin : ∀ (j : Nat) v, (cs.drop (i * 3))[j]? = some v → D.cell? ⟨bc, bo + (i + 1) * 3 + j, none⟩ = some v := fun j v hj => by
          obtain ⟨hj1, rfl⟩ := List.getElem?_eq_some_iff.1 hj
          rw [hD]
          exact World.cell?_setCells_in bc _ _ w.drew (fun p hp => by obtain ⟨u, hu⟩ := hlv (bo + (i + 1) * 3 + p) (by omega); rw [show w.drew.cell? ⟨bc, bo + (i + 1) * 3 + p, none⟩ = some u from hu]; rfl) j hj1
        have hDout : ∀ p, p < bo + (i + 1) * 3 → D.cell? ⟨bc, p, none⟩ = w.cell? ⟨bc, p, none⟩ := fun p hp => by
          rw [hD, World.cell?_setCells_out bc _ _ _ _ (fun _ _ => .inl hp)]
          rfl
        have hDl : ∀ p, p < bsz → (D.cell? ⟨bc, p, none⟩).isSome = true := fun p hp => by
          rw [hD]
          refine isSome_setCells bc _ _ _ (fun j hj => ?_) _ ?_
          · obtain ⟨u, hu⟩ := hlv (bo + (i + 1) * 3 + j) (by omega); rw [show w.drew.cell? ⟨bc, bo + (i + 1) * 3 + j, none⟩ = some u from hu]; rfl
          · obtain ⟨u, hu⟩ := hlv p hp; rw [show w.drew.cell? ⟨bc, p, none⟩ = some u from hu]; rfl
        have hWin : ∀ (j : Nat) v, vs[j]? = some v → w'.cell? ⟨bc, bo + i * 3 + j, none⟩ = some v := fun j v hj => by
          obtain ⟨hj1, rfl⟩ := List.getElem?_eq_some_iff.1 hj
          rw [hw']
          exact World.cell?_setCells_in bc _ _ D (fun p hp => hDl _ (by omega)) j hj1
        have hWout : ∀ p, p < bo + i * 3 ∨ bo + (i + 1) * 3 ≤ p → w'.cell? ⟨bc, p, none⟩ = D.cell? ⟨bc, p, none⟩ := fun p hp => by
          rw [hw', World.cell?_setCells_out bc _ _ _ _ (fun _ _ => by show p < _ ∨ _ ≤ p; omega)]
        have hWl : ∀ p, p < bsz → ∃ u, w'.cell? ⟨bc, p, none⟩ = some u := fun p hp => by
          refine Option.isSome_iff_exists.1 ?_
          rw [hw']
          exact isSome_setCells bc _ _ _ (fun j hj => hDl _ (by omega)) _ (hDl p hp)
        have hWf : ∀ p, w'.frozen? ⟨bc, p, none⟩ = false := fun p => by
          rw [hw', World.frozen?_setCells, hD, World.frozen?_setCells]
          exact hfr p
        have hblk := fun O => ins_blk (w := w') (O := O) hL (c := bc) (o := bo) (sz := bsz) (by rw [t1, s1]; exact hbl) (by rw [hLl]; omega) hWl hWf (fun q x j z hx hz => by
          rw [hat] at hx
          split at hx
          · rename_i hqi
            obtain ⟨hj, v, g1, g2, g3⟩ := hA q x j z hx hz
            exact ⟨v, by rw [hWout _ (.inl (by omega)), hDout _ (by omega), Nat.add_assoc]; exact g1, g2, g3⟩
          · split at hx
            · rename_i hqi
              cases hx
              obtain ⟨hj, v, g1, g2, g3⟩ := hB j z hz
              exact ⟨v, by rw [hqi]; exact hWin j v (hva g1 hj), g2, g3⟩
            · rename_i hq1 hq2
              obtain ⟨hj, v, g1, g2, g3⟩ := hA (q - 1) x j z hx hz
              have hql : q - 1 < ys.length := (List.getElem?_eq_some_iff.1 hx).1
              refine ⟨v, ?_, g2, g3⟩
              rw [hWout _ (.inr (by omega)), show bo + q * 3 + j = bo + (i + 1) * 3 + ((q - 1 - i) * 3 + j) by omega]
              refine hDin _ v ?_
              rw [List.getElem?_drop, show i * 3 + ((q - 1 - i) * 3 + j) = (q - 1) * 3 + j by omega]
              exact hca g1 (by omega))
        rw [hLl] at hblk
        refine ⟨[(⟨ys.length + 1, 3, bc, bo, bsz, false, false, false⟩, ⟨3, true, false, ys.take i ++ y :: ys.drop i, true⟩)], ?_⟩
        exact { size := by rw [t1, s1]; exact Nat.le_refl _
                same := fun c hc hno' => by
                  have hcb : c ≠ bc := fun e => hno' _ (List.mem_append_left _ (List.mem_singleton.2 rfl)) rfl e.symm
                  rw [t2 c hcb, s2 c hcb]
                  rfl
                os := by rw [t3, s3]; rfl
                tape := by rw [t4, s4]; rfl
                output := by rw [t5, s5]; rfl
                res := ⟨_, rfl, ⟨_, cap, rfl, rfl, hroom, fun _ => hcs3, fun _ => ⟨rfl, rfl⟩⟩, hblk _⟩
                outs := fun m p hp hf => by
                  rcases m with _ | _ | m
                  · cases hf
                  · cases hf
                  · simp at hp
                fresh := fun p hp _ => by
                  simp only [List.mem_singleton] at hp
                  subst hp
                  exact .inr ⟨0, _, rfl, rfl, rfl, rfl⟩
                inj := fun m m' p p' hp hp' _ _ _ => by
                  have h1 := (List.getElem?_eq_some_iff.1 hp).1
                  have h2 := (List.getElem?_eq_some_iff.1 hp').1
                  simp at h1 h2
                  omega }
      · -- a new row
        refine (ins_grow bc bo ys.length cap i cc co 1 cap' cs vs w hi (by omega) (by omega) (by omega) (by omega) hcl hvl hcc hvc h1c h1v).mono fun e w' he => ?_
        obtain ⟨rfl, hGn, ROW, hRs, hRt, hw'⟩ := he
        obtain ⟨G, hG⟩ : ∃ G, G = grownCap w (ys.length + 1) cap 39 := ⟨_, rfl⟩
        rw [← hG] at hGn hRs ⊢
        obtain ⟨W1, hW1⟩ : ∃ W1, W1 = (w.alloc (.cells ROW 39)).drew := ⟨_, rfl⟩
        rw [← hW1] at hw'
        obtain ⟨D, hD⟩ : ∃ D, D = (W1.setCells w.heap.size (i * 3) vs).drew := ⟨_, rfl⟩
        rw [← hD] at hw'
        obtain ⟨s1, s2, s3, s4, s5⟩ := setCells_heap w.heap.size vs (i * 3) W1
        obtain ⟨t1, t2, t3, t4, t5⟩ := setCells_heap w.heap.size (cs.drop (i * 3)) ((i + 1) * 3) D
        rw [← hw'] at t1 t2 t3 t4 t5
        have d1 : D.heap = (W1.setCells w.heap.size (i * 3) vs).heap := by rw [hD]; rfl
        rw [d1] at t1 t2
        have hdl : (cs.drop (i * 3)).length = (ys.length - i) * 3 := by rw [List.length_drop, hcl]; omega
        have hN : ∀ p, W1.cell? ⟨w.heap.size, p, none⟩ = ROW[p]? := fun p => by
          rw [hW1]
          exact World.cell?_alloc_at (w := w) ROW 39 w.heap.size p rfl
        have hNl : ∀ p, p < G * 3 → (W1.cell? ⟨w.heap.size, p, none⟩).isSome = true := fun p hp => by
          rw [hN, Array.getElem?_eq_getElem (by omega)]
          rfl
        have hDin : ∀ (j : Nat) v, vs[j]? = some v → D.cell? ⟨w.heap.size, i * 3 + j, none⟩ = some v := fun j v hj => by
          obtain ⟨hj1, rfl⟩ := List.getElem?_eq_some_iff.1 hj
          rw [hD]
          exact World.cell?_setCells_in w.heap.size _ _ W1 (fun p hp => hNl _ (by omega)) j hj1
        have hDout : ∀ p, p < i * 3 → D.cell? ⟨w.heap.size, p, none⟩ = ROW[p]? := fun p hp => by
          rw [← hN, hD]
          exact World.cell?_setCells_out w.heap.size _ _ W1 _ (fun _ _ => .inl hp)
        have hDl : ∀ p, p < G * 3 → (D.cell? ⟨w.heap.size, p, none⟩).isSome = true := fun p hp => by
          rw [hD]
          exact isSome_setCells w.heap.size _ _ W1 (fun j hj => hNl _ (by omega)) _ (hNl p hp)
        have hWin : ∀ (j : Nat) v, (cs.drop (i * 3))[j]? = some v → w'.cell? ⟨w.heap.size, (i + 1) * 3 + j, none⟩ = some v := fun j v hj => by
          obtain ⟨hj1, rfl⟩ := List.getElem?_eq_some_iff.1 hj
          rw [hw']
          exact World.cell?_setCells_in w.heap.size _ _ D (fun p hp => hDl _ (by omega)) j hj1
        have hWout : ∀ p, p < (i + 1) * 3 → w'.cell? ⟨w.heap.size, p, none⟩ = D.cell? ⟨w.heap.size, p, none⟩ := fun p hp => by
          rw [hw', World.cell?_setCells_out w.heap.size _ _ _ _ (fun _ _ => .inl hp)]
        have hWl : ∀ p, p < G * 3 → ∃ u, w'.cell? ⟨w.heap.size, p, none⟩ = some u := fun p hp => by
          refine Option.isSome_iff_exists.1 ?_
          rw [hw']
          exact isSome_setCells w.heap.size _ _ _ (fun j hj => hDl _ (by omega)) _ (hDl p hp)
        have hWf : ∀ p, w'.frozen? ⟨w.heap.size, p, none⟩ = false := fun p => by
          rw [hw', World.frozen?_setCells, hD, show (W1.setCells w.heap.size (i * 3) vs).drew.frozen? ⟨w.heap.size, p, none⟩ = (W1.setCells w.heap.size (i * 3) vs).frozen? ⟨w.heap.size, p, none⟩ from rfl, World.frozen?_setCells, hW1]
          exact World.frozen?_alloc_at (w := w) ROW _ w.heap.size p rfl
        have hsz1 : W1.heap.size = w.heap.size + 1 := by rw [hW1]; exact Array.size_push _
        have hblk := fun O => ins_blk (w := w') (O := O) hL (c := w.heap.size) (o := 0) (sz := G * 3) (by rw [t1, s1, hsz1]; omega) (by rw [hLl]; omega) hWl hWf (fun q x j z hx hz => by
          rw [hat] at hx
          rw [Nat.zero_add]
          split at hx
          · rename_i hqi
            obtain ⟨hj, v, g1, g2, g3⟩ := hA q x j z hx hz
            exact ⟨v, by rw [hWout _ (by omega), hDout _ (by omega), hRt _ (by omega)]; exact hca g1 (by omega), g2, g3⟩
          · split at hx
            · rename_i hqi
              cases hx
              obtain ⟨hj, v, g1, g2, g3⟩ := hB j z hz
              exact ⟨v, by rw [hqi, hWout _ (by omega)]; exact hDin j v (hva g1 hj), g2, g3⟩
            · rename_i hq1 hq2
              obtain ⟨hj, v, g1, g2, g3⟩ := hA (q - 1) x j z hx hz
              have hql : q - 1 < ys.length := (List.getElem?_eq_some_iff.1 hx).1
              refine ⟨v, ?_, g2, g3⟩
              rw [show q * 3 + j = (i + 1) * 3 + ((q - 1 - i) * 3 + j) by omega]
              refine hWin _ v ?_
              rw [List.getElem?_drop, show i * 3 + ((q - 1 - i) * 3 + j) = (q - 1) * 3 + j by omega]
              exact hca g1 (by omega))
        rw [hLl] at hblk
        have old : ∀ c, c < w.heap.size → w'.heap[c]? = w.heap[c]? := fun c hc => by
          rw [t2 c (by omega), s2 c (by omega), hW1]
          show (w.heap.push _)[c]? = _
          rw [Array.getElem?_push_lt hc, Array.getElem?_eq_getElem hc]
        refine ⟨[(⟨ys.length + 1, 3, w.heap.size, 0, G * 3, false, false, false⟩, ⟨3, true, false, ys.take i ++ y :: ys.drop i, true⟩)], ?_⟩
        exact { size := by rw [t1, s1, hsz1]; omega
                same := fun c hc _ => old c hc
                os := by rw [t3, hD, show (W1.setCells w.heap.size (i * 3) vs).drew.os = (W1.setCells w.heap.size (i * 3) vs).os from rfl, s3, hW1]; rfl
                tape := by rw [t4, hD, show (W1.setCells w.heap.size (i * 3) vs).drew.tape = (W1.setCells w.heap.size (i * 3) vs).tape from rfl, s4, hW1]; rfl
                output := by rw [t5, hD, show (W1.setCells w.heap.size (i * 3) vs).drew.output = (W1.setCells w.heap.size (i * 3) vs).output from rfl, s5, hW1]; rfl
                res := ⟨_, rfl, ⟨_, G, rfl, rfl, hGn, fun _ => by simp, fun _ => ⟨rfl, rfl⟩⟩, hblk _⟩
                outs := fun m p hp hf => by
                  rcases m with _ | _ | m
                  · cases hf
                  · cases hf
                  · simp at hp
                fresh := fun p hp _ => by
                  simp only [List.mem_singleton] at hp
                  subst hp
                  exact .inl (Nat.le_refl _)
                inj := fun m m' p p' hp hp' _ _ _ => by
                  have h1 := (List.getElem?_eq_some_iff.1 hp).1
                  have h2 := (List.getElem?_eq_some_iff.1 hp').1
                  simp at h1 h2
                  omega }
    · cases hg
  · cases hg
end Go.Proofs.YtcdojakgoogonaaDoor.Ev
