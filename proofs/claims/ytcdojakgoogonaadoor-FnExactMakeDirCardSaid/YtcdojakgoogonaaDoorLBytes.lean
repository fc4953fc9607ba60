/- What functions of the program answer (Bytes). No condition. -/
import Derived.Test.YtcdojakgoogonaaDoorLMarks
namespace Go.Proofs.YtcdojakgoogonaaDoor.Ev
open Go
set_option linter.unusedSimpArgs false
set_option linter.unusedVariables false
set_option maxRecDepth 10000
set_option maxHeartbeats 4000000

def u8of (n : Int) : UInt8 := UInt8.ofNat (IntKind.u8.wrap n).toNat
theorem u8of_val (n : Int) : ((u8of n).toNat : Int) = IntKind.u8.wrap n := by
  have h : IntKind.u8.wrap n = n % 256 := rfl
  simp only [u8of, UInt8.toNat_ofNat']
  rw [h]
  omega
theorem enc_wrap (n : Int) : AV.int .u8 (IntKind.u8.wrap n) = encB (u8of n) := by
  rw [encB, u8of_val]
theorem decB_enc (s : List UInt8) : decB (s.map encB) = some s := by
  induction s with
  | nil => rfl
  | cons a l ih => simp [decB, encB, ih]

/-- The low bytes of a number, the great first. -/
def be (n : Int) : Nat → List UInt8
  | 0 => []
  | k + 1 => be (n.fdiv 256) k ++ [u8of n]
theorem be_length (n : Int) (k : Nat) : (be n k).length = k := by
  induction k generalizing n with
  | zero => rfl
  | succ k ih => simp [be, ih]

theorem fdiv_256 (n : Int) : n.fdiv (2 ^ min 8 64) = n.fdiv 256 := rfl
theorem fdiv_two (n a b : Int) (ha : 0 < a) (hb : 0 < b) : (n.fdiv a).fdiv b = n.fdiv (a * b) := by
  rw [Int.fdiv_eq_ediv_of_nonneg _ (by omega), Int.fdiv_eq_ediv_of_nonneg _ (by omega), Int.fdiv_eq_ediv_of_nonneg _ (by have := Int.mul_pos ha hb; omega), Int.ediv_ediv_of_nonneg (by omega)]









