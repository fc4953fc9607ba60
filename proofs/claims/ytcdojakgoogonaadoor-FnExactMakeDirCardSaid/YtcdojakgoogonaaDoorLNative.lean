/- Functions of Go's library that have no text here: what the model answers for them. No condition. -/
import Derived.Test.YtcdojakgoogonaaDoorTy
import Derived.Test.YtcdojakgoogonaaDoorEvOpen
import Derived.Lib.Bytealg
import Derived.Test.YtcdojakgoogonaaDoorEvLaw
import Derived.Test.YtcdojakgoogonaaDoorChecked
namespace Go.Proofs.YtcdojakgoogonaaDoor.Ev
open Go
set_option linter.unusedSimpArgs false
set_option linter.unusedVariables false
set_option maxRecDepth 10000
set_option maxHeartbeats 4000000

theorem callFunc_ext {P : Program} {f : FuncId} {fn : Func} {e : Array Value → Sem Value} {args : Array Value} {v : Value} {w : World} (hf : P.funcs[f]? = some fn) (hb : fn.body = none) (hn : (fn.name == "runtime.NumGoroutine") = false) (h1 : Extern.findNext fn = none) (h2 : Extern.find fn = some e) (hr : (e args).run P w = .ok v w) :
    (callFunc f args).run P w = .ok (.value v) w := by
  unfold callFunc
  show (Sem.bind _ _).run P w = _
  rw [Sem.run_bind']
  show Sem.run P (match P.funcs[f]? with | none => _ | some fn => _) w = _
  rw [hf]
  dsimp only
  rw [hn, hb, h1, h2]
  dsimp only [Option.isNone_none]
  show (Sem.bind _ _).run P w = _
  rw [Sem.run_bind']
  show (Sem.bind _ _).run P w = _
  rw [Sem.run_bind', hr]
  rfl

/-- A function that answers at once, a value without memory. -/
theorem Fits_val {P : Program} {f : FuncId} {fs : List Bool} {xs : List AV} {r : AV} (h : ∀ w is vs O, FR.FRL w O xs is vs → is = [] ∧ ∃ v, (callFunc f vs.toArray).run P w = .ok (.value v) w ∧ ∀ O', RelC w O' r v) : Fits P f fs xs r [] := by
  intro w X is vs hX hF hap hno
  obtain ⟨rfl, v, h1, h2⟩ := h w is vs _ hF
  exact .inr ⟨v, w, h1, [], { size := Nat.le_refl _, same := fun _ _ _ => rfl, os := rfl, tape := rfl, output := rfl, res := FR.of (h2 _), outs := fun m p hp => by simp at hp, fresh := fun p hp => by simp at hp, inj := fun m m' p p' hp => by simp at hp }⟩

theorem FRL_str_byte {w : World} {O : Nat → Prop} {s : List UInt8} {k : IntKind} {c : Int} {is : List (BI × Blk)} {vs : List Value} (h : FR.FRL w O [.str s, .int k c] is vs) : is = [] ∧ ∃ b, b.data.toList = s ∧ vs = [.string b, .int k c] := by
  obtain ⟨i1, i2, v, us, rfl, rfl, ⟨rfl, h1⟩, j1, j2, u, ts, rfl, rfl, ⟨rfl, h2⟩, rfl, rfl⟩ := h
  cases h1 with
  | str _ b hb => cases h2; exact ⟨rfl, b, hb, rfl⟩
theorem FRL_two_str {w : World} {O : Nat → Prop} {s t : List UInt8} {is : List (BI × Blk)} {vs : List Value} (h : FR.FRL w O [.str s, .str t] is vs) : is = [] ∧ ∃ b c, b.data.toList = s ∧ c.data.toList = t ∧ vs = [.string b, .string c] := by
  obtain ⟨i1, i2, v, us, rfl, rfl, ⟨rfl, h1⟩, j1, j2, u, ts, rfl, rfl, ⟨rfl, h2⟩, rfl, rfl⟩ := h
  cases h1 with
  | str _ b hb => cases h2 with
    | str _ c hc => exact ⟨rfl, b, c, hb, hc, rfl⟩

def natIndex : List AV → Option (AV × List (List AV))
  | [.str s, .int .u8 c] => some (.int .i64 (Lib.indexByte s c.toNat.toUInt8), [])
  | _ => none
def natCount : List AV → Option (AV × List (List AV))
  | [.str s, .int .u8 c] => some (.int .i64 (Lib.countByte s c.toNat.toUInt8 : Nat), [])
  | _ => none
def natCmp : List AV → Option (AV × List (List AV))
  | [.str s, .str t] => some (.int .i64 (Lib.compareBytes s t), [])
  | _ => none
def native (f : FuncId) : Option (List AV → Option (AV × List (List AV))) :=
  if f = 135 then some natIndex else if f = 124 then some natCount else if f = 106 then some natCmp else none

theorem native_fits (f : FuncId) (g : List AV → Option (AV × List (List AV))) (xs : List AV) (q : AV × List (List AV)) (h : native f = some g) (hg : g xs = some q) : Fits Tryd.prog f (lentFs (ann f).modes xs) xs q.1 q.2 := by
  unfold native at h
  split at h
  · rename_i e
    cases h
    unfold natIndex at hg
    split at hg
    · cases hg
      rw [e]
      refine Fits_val fun w is vs O hF => ?_
      obtain ⟨rfl, b, rfl, rfl⟩ := FRL_str_byte hF
      exact ⟨rfl, _, callFunc_ext Tryd.func135 rfl (by kernel_rfl) (by kernel_rfl) (show Extern.find Tryd.f135 = some Extern.BytealgIndexByte.indexByte by kernel_rfl) (Lib.run_indexByteString _ _ w), fun O' => .int _ _⟩
    · cases hg
  · split at h
    · rename_i e
      cases h
      unfold natCount at hg
      split at hg
      · cases hg
        rw [e]
        refine Fits_val fun w is vs O hF => ?_
        obtain ⟨rfl, b, rfl, rfl⟩ := FRL_str_byte hF
        exact ⟨rfl, _, callFunc_ext Tryd.func124 rfl (by kernel_rfl) (by kernel_rfl) (show Extern.find Tryd.f124 = some Extern.BytealgCount.count by kernel_rfl) (Lib.run_countString _ _ w), fun O' => .int _ _⟩
      · cases hg
    · split at h
      · rename_i e
        cases h
        unfold natCmp at hg
        split at hg
        · cases hg
          rw [e]
          refine Fits_val fun w is vs O hF => ?_
          obtain ⟨rfl, b, c, rfl, rfl, rfl⟩ := FRL_two_str hF
          exact ⟨rfl, _, callFunc_ext Tryd.func106 rfl (by kernel_rfl) (by kernel_rfl) (show Extern.find Tryd.f106 = some Extern.BytealgCompare.compare by kernel_rfl) (Lib.run_compareString _ _ w), fun O' => .int _ _⟩
        · cases hg
      · cases h
end Go.Proofs.YtcdojakgoogonaaDoor.Ev
