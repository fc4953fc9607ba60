/- What functions of the program answer (Hash3@0). No condition. -/
import Derived.Test.YtdbfmcgdmnbabaaLZHash2
namespace Go.Proofs.Ytdbfmcgdmnbabaa.Ev.Z
open Go
set_option linter.unusedSimpArgs false
set_option linter.unusedVariables false
set_option maxRecDepth 10000
set_option maxHeartbeats 4000000
def zs64 : List Int := List.replicate 64 0
@[go_sem] theorem zs64_len : zs64.length = 64 := rfl
@[go_sem] theorem ze64 : zeOf Try.prog 112 = .agg (u32L zs64) := by kernel_rfl
/-- Four bytes as a word. -/
def wordW (a b c d : Int) : Int := bvOr .u32 (bvOr .u32 (bvOr .u32 (IntKind.u32.wrap (a * 2 ^ 24)) (IntKind.u32.wrap (b * 2 ^ 16))) (IntKind.u32.wrap (c * 2 ^ 8))) d
theorem or_add (k : Nat) (hk : k < 32) (x y : Int) (h0 : 0 ≤ x) (h1 : x < 2 ^ (32 - k)) (h2 : 0 ≤ y) (h3 : y < 2 ^ k) : bvOr .u32 (x * 2 ^ k) y = x * 2 ^ k + y := by
  obtain ⟨a, rfl⟩ := Int.eq_ofNat_of_zero_le h0
  obtain ⟨b, rfl⟩ := Int.eq_ofNat_of_zero_le h2
  have h1' : a < 2 ^ (32 - k) := by exact_mod_cast h1
  have h3' : b < 2 ^ k := by exact_mod_cast h3
  have e : ((a : Int) * 2 ^ k) = ((a * 2 ^ k : Nat) : Int) := by simp
  have hlt : a * 2 ^ k + b < 2 ^ 32 := by
    have : 2 ^ 32 = 2 ^ (32 - k) * 2 ^ k := by rw [← Nat.pow_add]; congr 1; omega
    rw [this]
    calc a * 2 ^ k + b < a * 2 ^ k + 2 ^ k := by omega
      _ = (a + 1) * 2 ^ k := by rw [Nat.add_mul, Nat.one_mul]
      _ ≤ 2 ^ (32 - k) * 2 ^ k := Nat.mul_le_mul_right _ h1'
  have ho : (a * 2 ^ k) ||| b = a * 2 ^ k + b := by rw [Nat.mul_comm]; exact (Nat.two_pow_add_eq_or_of_lt h3' a).symm
  unfold bvOr
  rw [e, ← Int.natCast_add]
  show IntKind.u32.wrap (((BitVec.ofInt 32 ((a * 2 ^ k : Nat) : Int)) ||| (BitVec.ofInt 32 (b : Int))).toNat : Int) = _
  rw [BitVec.ofInt_natCast, BitVec.ofInt_natCast, BitVec.toNat_or, BitVec.toNat_ofNat, BitVec.toNat_ofNat, Nat.mod_eq_of_lt (by omega), Nat.mod_eq_of_lt (by omega), ho]
  show ((a * 2 ^ k + b : Nat) : Int) % 4294967296 = _
  omega
theorem wrap_u32 {n : Int} (h : 0 ≤ n) (h' : n < 4294967296) : IntKind.u32.wrap n = n := by
  show n % 4294967296 = n
  omega
def accW (x c : Int) : Int := bvOr .u32 (IntKind.u32.wrap (x * 2 ^ min 8 32)) c
theorem accW_eq {x c : Int} (h0 : 0 ≤ x) (h1 : x < 16777216) (h2 : 0 ≤ c) (h3 : c < 256) : accW x c = x * 256 + c := by
  unfold accW
  rw [show min 8 32 = 8 from rfl, wrap_u32 (by omega) (by omega), or_add 8 (by omega) x c h0 (by simpa using h1) h2 (by simpa using h3)]
  rfl
theorem word_eq {a b c d : Int} (a0 : 0 ≤ a) (a1 : a < 256) (b0 : 0 ≤ b) (b1 : b < 256) (c0 : 0 ≤ c) (c1 : c < 256) (d0 : 0 ≤ d) (d1 : d < 256) : accW (accW (accW (accW 0 a) b) c) d = wordW a b c d := by
  have e1 : accW 0 a = a := by rw [accW_eq (by omega) (by omega) a0 a1]; omega
  rw [e1, accW_eq a0 (by omega) b0 b1, accW_eq (by omega) (by omega) c0 c1, accW_eq (by omega) (by omega) d0 d1]
  unfold wordW
  rw [wrap_u32 (n := a * 2 ^ 24) (by omega) (by omega), wrap_u32 (n := b * 2 ^ 16) (by omega) (by omega), wrap_u32 (n := c * 2 ^ 8) (by omega) (by omega),
    or_add 24 (by omega) a (b * 2 ^ 16) a0 (by simp; omega) (by omega) (by simp; omega),
    show a * 2 ^ 24 + b * 2 ^ 16 = (a * 256 + b) * 2 ^ 16 by omega, or_add 16 (by omega) (a * 256 + b) (c * 2 ^ 8) (by omega) (by simp; omega) (by omega) (by simp; omega),
    show (a * 256 + b) * 2 ^ 16 + c * 2 ^ 8 = ((a * 256 + b) * 256 + c) * 2 ^ 8 by omega, or_add 8 (by omega) ((a * 256 + b) * 256 + c) d (by omega) (by simp; omega) d0 (by simp; omega)]
  omega

def sg0 (x : Int) : Int := xor32 (xor32 (rotr x 7) (rotr x 18)) (shr32 x 3)
def sg1 (x : Int) : Int := xor32 (xor32 (rotr x 17) (rotr x 19)) (shr32 x 10)
def nxtW (w : List Int) (i : Nat) : Int := add32 (add32 (add32 (w.getD (i - 16) 0) (sg0 (w.getD (i - 15) 0))) (w.getD (i - 7) 0)) (sg1 (w.getD (i - 2) 0))
def byI (b : List UInt8) (i : Nat) : Int := ((b.getD i 0).toNat : Int)
def wordAt (b : List UInt8) (i : Nat) : Int := wordW (byI b (4 * i)) (byI b (4 * i + 1)) (byI b (4 * i + 2)) (byI b (4 * i + 3))
/-- The words of all rounds, up to one. -/
def schA (b : List UInt8) : Nat → List Int
  | 0 => zs64
  | i + 1 => (schA b i).set i (if i < 16 then wordAt b i else nxtW (schA b i) i)
theorem schA_len (b : List UInt8) : ∀ i, (schA b i).length = 64
  | 0 => rfl
  | i + 1 => by simp [schA, schA_len b i]
theorem byI_rng (b : List UInt8) (i : Nat) : 0 ≤ byI b i ∧ byI b i < 256 := by
  unfold byI
  have := (b.getD i 0).toNat_lt
  omega
theorem schA_zero (b : List UInt8) : ∀ i j, i ≤ j → j < 64 → (schA b i)[j]? = some 0
  | 0, j, _, h => by simp only [schA, zs64]; exact List.getElem?_replicate_of_lt h
  | i + 1, j, h, h' => by
    simp only [schA]
    rw [List.getElem?_set_ne (by omega)]
    exact schA_zero b i j (by omega) h'
end Go.Proofs.Ytdbfmcgdmnbabaa.Ev.Z
