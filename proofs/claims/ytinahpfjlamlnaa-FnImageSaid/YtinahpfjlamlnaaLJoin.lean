/- strings.Join, by the library's contract. No condition. -/
import Derived.Test.YtinahpfjlamlnaaTy
import Derived.Test.YtinahpfjlamlnaaEvOpen
import Derived.Test.YtinahpfjlamlnaaEvLaw
import Derived.Test.YtinahpfjlamlnaaChecked
import Derived.Test.YtinahpfjlamlnaaShelf
namespace Go.Proofs.Ytinahpfjlamlnaa.Ev
open Go
set_option linter.unusedSimpArgs false
set_option linter.unusedVariables false
set_option maxRecDepth 10000
set_option maxHeartbeats 4000000
def strsL : List AV → Option (List (List UInt8))
  | [] => some []
  | .str s :: l => (strsL l).map (s :: ·)
  | _ :: _ => none
theorem strsL_map (ls : List (List UInt8)) : strsL (ls.map AV.str) = some ls := by
  induction ls with
  | nil => rfl
  | cons s l ih => simp [strsL, ih]
theorem strsL_eq : ∀ {xs : List AV} {ls : List (List UInt8)}, strsL xs = some ls → xs = ls.map AV.str
  | [], ls, h => by simp [strsL] at h; subst h; rfl
  | x :: l, ls, h => by
    cases x with
    | str s =>
      simp only [strsL, Option.map_eq_some_iff] at h
      obtain ⟨r, hr, rfl⟩ := h
      rw [strsL_eq hr]
      rfl
    | _ => simp [strsL] at h

def joinP : List AV → Option (AV × List (List AV))
  | [.lst 1 _ xs, .str s] => (strsL xs).bind fun ls => if ls.length ≤ 1099511627776 ∧ (Lib.join ls s).length ≤ 1099511627776 then some (.str (Lib.join ls s), []) else none
  | _ => none
def joined (f : FuncId) : Option (List AV → Option (AV × List (List AV))) := if f = 80 then some joinP else none

theorem post_str {w w' : World} {X : Nat → Prop} {fs : List Bool} {s : List UInt8} {b : ByteArray} (hb : b.data.toList = s) (h : RowKit.Below w.heap.size w w') : Post w w' X fs [] (.str s) [] (.string b) [] := by
  obtain ⟨b1, b2, b3, b4, b5⟩ := h
  exact { size := b4, same := fun c hc _ => b5 c hc, os := b1, tape := b2, output := b3, res := FR.of (.str _ _ hb), outs := fun m p hp => by simp at hp, fresh := fun p hp => by simp at hp, inj := fun m m' p p' hp => by simp at hp }

theorem joined_fits (f : FuncId) (g : List AV → Option (AV × List (List AV))) (xs : List AV) (q : AV × List (List AV)) (h : joined f = some g) (hg : g xs = some q) : Fits Try.prog f (lentFs (ann f).modes xs) xs q.1 q.2 := by
  unfold joined at h
  split at h
  · rename_i e
    cases h
    unfold joinP at hg
    split at hg
    · rename_i fl ys s
      obtain ⟨ls, hls, hc⟩ := Option.bind_eq_some_iff.1 hg
      obtain rfl := strsL_eq hls
      split at hc
      · rename_i hle
        cases hc
        rw [e]
        intro w X is vs hX hF hap hno
        obtain ⟨i1, i2, v, us, rfl, rfl, ⟨rfl, h1⟩, j1, j2, u, ts, rfl, rfl, ⟨rfl, h2⟩, rfl, rfl⟩ := hF
        cases h2 with
        | str _ sep hsep =>
          subst hsep
          refine .inl ⟨callFunc_run Try.func80 rfl (by kernel_rfl) _ w, ?_⟩
          generalize hys : ls.map AV.str = ys at h1
          cases h1 with
          | lst0 _ _ a c =>
            obtain rfl : ls = [] := by simpa using hys
            refine (Try.strings_Join_none a c sep w).mono fun e w' he => ?_
            obtain ⟨rfl, rfl⟩ := he
            exact ⟨[], post_str (by simp [Lib.join]) (RowKit.Below.refl _ _)⟩
          | lst _ _ _ b o c vv hc hO hb hx hv hr =>
            subst hys
            have hk := Try.strings_Join b o c (ls.map fun s => (⟨s.toArray⟩ : ByteArray)) sep w (fun j x hj => by
              rw [List.getElem?_map, Option.map_eq_some_iff] at hj
              obtain ⟨s, hs, rfl⟩ := hj
              have hs' : (ls.map AV.str)[j]? = some (.str s) := by rw [List.getElem?_map, hs]; rfl
              obtain ⟨g1, _⟩ := hv j _ 0 _ hs' rfl
              have g2 := hr j _ 0 _ hs' rfl
              rw [Nat.mul_one, Nat.add_zero] at g1
              rw [g1]
              generalize vv j 0 = z at g2
              cases g2 with
              | str _ bb hbb => subst hbb; rfl) hb (by rw [List.length_map]; omega) (by simpa using hc) (by
              rw [List.map_map]
              simpa [Function.comp_def] using (by omega : (Lib.join ls sep.data.toList).length ≤ 140737488355328))
            rw [List.length_map] at hk
            rw [List.length_map]
            refine hk.mono fun e w' he => ?_
            obtain ⟨rfl, hbel⟩ := he
            refine ⟨[], post_str ?_ hbel⟩
            simp [List.map_map, Function.comp_def]
      · cases hc
    · cases hg
  · cases h

theorem run_Join (ls : List (List UInt8)) (s : List UInt8) (h : ls.length ≤ 1099511627776) (h' : (Lib.join ls s).length ≤ 1099511627776) : RunF Try.prog ann joined 80 [.lst 1 true (ls.map AV.str), .str s] = some (.str (Lib.join ls s), []) := by
  refine RunF_prim (g := joinP) rfl |>.trans ?_
  simp only [joinP, strsL_map, Option.bind_some]
  rw [if_pos ⟨h, h'⟩]
end Go.Proofs.Ytinahpfjlamlnaa.Ev
