/- What functions of the program answer (FilesB). No condition. -/
import Derived.Test.YtcdojakgoogonaaDoorLCodes
import Derived.Test.YtcdojakgoogonaaDoorLMarkF
import Derived.Test.YtcdojakgoogonaaDoorLBytes
namespace Go.Proofs.YtcdojakgoogonaaDoor.Ev
open Go
set_option linter.unusedSimpArgs false
set_option linter.unusedVariables false
set_option maxRecDepth 10000
set_option maxHeartbeats 4000000

theorem enc_one (n : Int) : [AV.int .u8 (IntKind.u8.wrap n)] = (be n 1).map encB := by
  rw [enc_wrap]
  simp [be]
theorem flat_step {α : Type} {f : α → List UInt8} {xs : List α} {i : Nat} {x : α} (hx : xs[i]? = some x) (a : List UInt8) : a ++ (xs.drop i).flatMap f = a ++ f x ++ (xs.drop (i + 1)).flatMap f := by
  obtain ⟨h1, h2⟩ := List.getElem?_eq_some_iff.1 hx
  rw [List.drop_eq_getElem_cons h1, List.flatMap_cons, h2, List.append_assoc]
theorem flat_end {α : Type} {f : α → List UInt8} {xs : List α} {i : Nat} (hi : xs.length ≤ i) (a : List UInt8) : a ++ (xs.drop i).flatMap f = a := by
  rw [List.drop_eq_nil_of_le hi]
  simp
theorem flat_len {α : Type} {f : α → List UInt8} {xs : List α} {m : Nat} (h : ∀ x ∈ xs, (f x).length ≤ m) : (xs.flatMap f).length ≤ xs.length * m := by
  induction xs with
  | nil => simp
  | cons x l ih =>
    have h1 := h x (by simp)
    have h2 := ih fun y hy => h y (by simp [hy])
    simp only [List.flatMap_cons, List.length_append, List.length_cons, Nat.succ_mul]
    omega

def fileBytes (x : TFile) : List UInt8 := be x.Path.length 1 ++ x.Path ++ be (if x.Dir = true then 1 else 0) 1 ++ be x.Data.length 2 ++ x.Data
def filesBytes (xs : List TFile) : List UInt8 := be xs.length 1 ++ xs.flatMap fileBytes
theorem fileB_len {x : TFile} (h : fileB x = true) : x.Path.length ≤ 40 ∧ x.Data.length ≤ 200 := by
  simp only [fileB, Bool.and_eq_true, decide_eq_true_eq] at h
  exact ⟨pathB_len h.1.1, h.1.2⟩
theorem fileBytes_len {x : TFile} (h : fileB x = true) : (fileBytes x).length ≤ 300 := by
  obtain ⟨h1, h2⟩ := fileB_len h
  simp only [fileBytes, List.length_append, be_length]
  omega





abbrev lfHp (a : List UInt8) : List (Nat × Blk) := [(3, ⟨1, true, false, a.map encB, true⟩)]




abbrev bfSt (xs : List TFile) (a : List UInt8) (i : Nat) : St := ⟨[(0, .undef), (2, .undef), (3, .str a), (5, .undef), (9, .lst 3 true (xs.map TFile.v)), (10, I xs.length), (11, I i)], [], []⟩




theorem filesBytes_len {xs : List TFile} (hk : filesP xs) : (filesBytes xs).length ≤ 4000 := by
  have hf := flat_len (f := fileBytes) fun x hx => fileBytes_len (hk.2.1 x hx).1
  have := hk.1
  simp only [filesBytes, List.length_append, be_length]
  omega

/-- The code of files by themselves. -/
noncomputable def lcode (xs : List TFile) : Int := if (4096 : Int) < xs.length then 2 else if okB xs = true then 0 else 1
theorem lcode_zero {xs : List TFile} (h : lcode xs = 0) : filesP xs := by
  unfold lcode at h
  split at h
  · simp at h
  · split at h
    · rename_i h1; exact okB_iff.1 h1
    · simp at h

