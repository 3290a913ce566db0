/- Proved here: lemmas and contracts (R5) for the laws of this seat, for all values of the stated types; no further condition. -/
import Derived.OwnWalk
import Derived.IntWalk
import Derived.Deep.DeepCutAuto
import Derived.Deep.CutBlock
import Derived.Test.YtjiiojbenbldlaaR4
import Derived.Test.YtjiiojbenbldlaaRegT
import Derived.Test.YtjiiojbenbldlaaPart
open Go Go.RowKit Go.Lib
namespace Go.Proofs.L
theorem u32w (x : Int) : IntKind.u32.wrap x = x % 4294967296 := by simp [IntKind.wrap, IntKind.bits, IntKind.signed]
theorem u32b (a : Nat) (h : a < 4294967296) : (BitVec.ofInt 32 (a : Int)).toNat = a := by
  rw [BitVec.ofInt_natCast, BitVec.toNat_ofNat]; exact Nat.mod_eq_of_lt h
theorem and32 (a b : Nat) (ha : a < 4294967296) (hb : b < 4294967296) : bits .and .u32 (a : Int) (b : Int) = ((a &&& b : Nat) : Int) := by
  show IntKind.u32.wrap ((BitVec.ofInt 32 (a : Int) &&& BitVec.ofInt 32 (b : Int)).toNat : Int) = _
  rw [BitVec.toNat_and, u32b a ha, u32b b hb, u32w]
  have := Nat.lt_of_le_of_lt (Nat.and_le_left (n := a) (m := b)) ha
  omega
theorem or32 (a b : Nat) (ha : a < 4294967296) (hb : b < 4294967296) : bits .or .u32 (a : Int) (b : Int) = ((a ||| b : Nat) : Int) := by
  show IntKind.u32.wrap ((BitVec.ofInt 32 (a : Int) ||| BitVec.ofInt 32 (b : Int)).toNat : Int) = _
  rw [BitVec.toNat_or, u32b a ha, u32b b hb, u32w]
  have := Nat.or_lt_two_pow (n := 32) ha hb
  omega
/-- the lowest n bits -/
theorem and_low (a n : Nat) : a &&& (2 ^ n - 1) = a % 2 ^ n := Nat.and_two_pow_sub_one_eq_mod a n
/-- two numbers whose bits lie apart -/
theorem or_apart (a b n : Nat) (hb : b < 2 ^ n) : (a * 2 ^ n) ||| b = a * 2 ^ n + b := by
  rw [Nat.mul_comm, Nat.two_pow_add_eq_or_of_lt hb]
/-- the lowest n bits of x with their sign, in 32 bits -/
def sx (n x : Nat) : Nat := if x % 2 ^ n < 2 ^ (n - 1) then x % 2 ^ n else x % 2 ^ n + (2 ^ 32 - 2 ^ n)
theorem sx12 (x : Nat) : (wrap32 ((x : Int) * 1048576 % 4294967296)) / 1048576 % 4294967296 = ((sx 12 x : Nat) : Int) := by
  simp only [sx, wrap32, Nat.reducePow, Nat.reduceSub]
  split <;> omega
theorem sx13 (x : Nat) : (wrap32 ((x : Int) * 524288 % 4294967296)) / 524288 % 4294967296 = ((sx 13 x : Nat) : Int) := by
  simp only [sx, wrap32, Nat.reducePow, Nat.reduceSub]
  split <;> omega
theorem sx21 (x : Nat) : (wrap32 ((x : Int) * 2048 % 4294967296)) / 2048 % 4294967296 = ((sx 21 x : Nat) : Int) := by
  simp only [sx, wrap32, Nat.reducePow, Nat.reduceSub]
  split <;> omega
def immI (w : Nat) : Nat := sx 12 (w / 1048576)
def immS (w : Nat) : Nat := sx 12 (w / 33554432 * 32 + w / 128 % 32)
def immB (w : Nat) : Nat := sx 13 (w / 2147483648 * 4096 + w / 128 % 2 * 2048 + w / 33554432 % 64 * 32 + w / 256 % 16 * 2)
def immU (w : Nat) : Nat := w / 4096 * 4096
def immJ (w : Nat) : Nat := sx 21 (w / 2147483648 * 1048576 + w / 4096 % 256 * 4096 + w / 1048576 % 2 * 2048 + w / 2097152 % 1024 * 2)
theorem ret_u {a b : Int} (h : a = b) : Ending.returned (.int .u32 a) = .returned (.int .u32 b) := by rw [h]
theorem ret_i {a b : Int} (h : a = b) : Ending.returned (.int .i64 a) = .returned (.int .i64 b) := by rw [h]
theorem andNot32 (a m : Nat) (ha : a < 4294967296) : bits .andNot .u32 (a : Int) ((2 ^ 12 - 1 : Nat) : Int) = ((a / 4096 * 4096 : Nat) : Int) := by
  show IntKind.u32.wrap ((BitVec.ofInt 32 (a : Int) &&& ~~~ BitVec.ofInt 32 (((2 ^ 12 - 1 : Nat)) : Int)).toNat : Int) = _
  have h : (BitVec.ofInt 32 (a : Int) &&& ~~~ BitVec.ofInt 32 (((2 ^ 12 - 1 : Nat)) : Int)).toNat = a / 4096 * 4096 := by
    rw [BitVec.toNat_and, BitVec.toNat_not, u32b a ha, u32b _ (by decide)]
    apply Nat.eq_of_testBit_eq
    intro i
    rw [Nat.testBit_and, show a / 4096 * 4096 = 2 ^ 12 * (a / 2 ^ 12) by omega, Nat.testBit_two_pow_mul, Nat.testBit_div_two_pow, show 2 ^ 32 - 1 - (2 ^ 12 - 1) = 2 ^ 12 * (2 ^ 20 - 1) by decide, Nat.testBit_two_pow_mul, Nat.testBit_two_pow_sub_one]
    by_cases h : i < 32
    · by_cases h2 : 12 ≤ i
      · simp [h2, show i - 12 < 20 by omega]
      · simp [h2]
    · have : a.testBit i = false := Nat.testBit_lt_two_pow (Nat.lt_of_lt_of_le ha (Nat.pow_le_pow_right (n := 2) (by decide) (show 32 ≤ i by omega)))
      rw [this]
      simp
      intro h3
      rw [show i - 12 + 12 = i by omega]; exact this
  rw [h, u32w]; omega
end Go.Proofs.L
