/- impl.hash is SHA-256, by its walk; what the evaluator finds without it holds with it. No condition. -/
import Derived.Test.YtdbfmcgdmnbabaaLZHashK
namespace Go.Proofs.Ytdbfmcgdmnbabaa.Ev
open Go
set_option linter.unusedSimpArgs false
set_option linter.unusedVariables false
set_option maxRecDepth 10000
set_option maxHeartbeats 4000000
theorem hash_post {w w' : World} {X : Nat → Prop} {fs : List Bool} {s : List UInt8} {b : ByteArray} (hb : b.data.toList = s) (h : RowKit.Below w.heap.size w w') : Post w w' X fs [] (.str s) [] (.string b) [] := by
  obtain ⟨b1, b2, b3, b4, b5⟩ := h
  exact { size := b4, same := fun c hc _ => b5 c hc, os := b1, tape := b2, output := b3, res := FR.of (.str _ _ hb), outs := fun m p hp => by simp at hp, fresh := fun p hp => by simp at hp, inj := fun m m' p p' hp => by simp at hp }
def hashG : List AV → Option (AV × List (List AV))
  | [.str s] => if s.length ≤ 2 ^ 30 then some (.str (Z.hashP s), []) else none
  | _ => none
def hashed (f : FuncId) : Option (List AV → Option (AV × List (List AV))) := if f = 93 then some hashG else none
theorem hashed_fits (f : FuncId) (g : List AV → Option (AV × List (List AV))) (xs : List AV) (q : AV × List (List AV)) (h : hashed f = some g) (hg : g xs = some q) : Fits Try.prog f (lentFs (ann f).modes xs) xs q.1 q.2 := by
  unfold hashed at h
  split at h
  · rename_i e
    subst e
    cases h
    unfold hashG at hg
    split at hg
    · rename_i s
      split at hg
      · rename_i hs
        cases hg
        intro w X is vs hX hF hap hno
        obtain ⟨i1, i2, v, us, rfl, rfl, ⟨rfl, h1⟩, rfl, rfl⟩ := hF
        cases h1 with
        | str _ b hb =>
        refine .inl ⟨callFunc_run Try.func93 rfl (by kernel_rfl) _ w, ?_⟩
        refine (Z.hash_calls s hs b hb w).mono fun e w' he => ?_
        cases e with
        | returned v =>
          obtain ⟨⟨c, rfl, hc⟩, hbel⟩ := he
          exact ⟨[], hash_post hc hbel⟩
        | panicked ch => exact he
        | outgrown => exact he
      · cases hg
    · cases hg
  · cases h
theorem run_hash (s : List UInt8) (hs : s.length ≤ 2 ^ 30) : RunF Try.prog ann hashed 93 [.str s] = some (.str (Z.hashP s), []) := by
  refine RunF_prim (g := hashG) rfl |>.trans ?_
  simp only [hashG, hs, if_true]

theorem hash_none (n : Nat) (xs : List AV) : runF Try.prog ann (fun _ => none) n 93 xs = none := by
  cases n with
  | zero => rfl
  | succ n =>
    have hk : okFn (ann 93).keep Try.f93 = false := by kernel_rfl
    unfold runF
    dsimp only
    rw [Try.func93]
    dsimp only
    rw [show Try.f93.body = some (Try.f93.body.getD .skip) from rfl]
    dsimp only
    rw [hk]
    rfl
theorem runF_up : ∀ (n : Nat) (f : FuncId) (xs : List AV), Le (runF Try.prog ann (fun _ => none) n f xs) (runF Try.prog ann hashed n f xs)
  | 0, f, xs => Le.refl _
  | n + 1, f, xs => by
    by_cases e : f = 93
    · subst e
      rw [hash_none]
      intro r h
      cases h
    · have hh : hashed f = none := by unfold hashed; rw [if_neg e]
      have ih := runF_up n
      unfold runF
      rw [hh]
      dsimp only
      cases Try.prog.funcs[f]? with
      | none => exact Le.refl _
      | some fn =>
        dsimp only
        cases fn.body with
        | none => exact Le.refl _
        | some c =>
          dsimp only
          cases okFn (ann f).keep fn && decide (xs.length ≤ 1000) with
          | false => exact Le.refl _
          | true => exact Le.bind (run_le (fun f x => ih f x) _ n n (Nat.le_refl _) 0 c _) fun p => Le.refl _
/-- What holds without it holds with it. -/
theorem RunF_up {f : FuncId} {xs : List AV} {q : AV × List (List AV)} (h : RunF Try.prog ann (fun _ => none) f xs = some q) : RunF Try.prog ann hashed f xs = some q := by
  obtain ⟨n, hn⟩ := RunF_iff.1 h
  exact RunF_iff.2 ⟨n, runF_up n f xs q hn⟩
theorem run_l03Hash (s : List UInt8) (hs : s.length ≤ 2 ^ 30) : RunF Try.prog ann hashed 80 [.lst 1 true (s.map encB)] = some (.str (Z.hashP s), []) := RunF_up (Z.run_l03Hash s hs)
end Go.Proofs.Ytdbfmcgdmnbabaa.Ev
