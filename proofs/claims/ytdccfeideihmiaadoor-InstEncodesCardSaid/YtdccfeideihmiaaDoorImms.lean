/- Proved here: lemmas and contracts (Imms) for the laws of this seat, for all values of the stated types; no further condition. -/
import Derived.Test.YtdccfeideihmiaaDoorBase
open Go Go.RowKit Go.Lib
namespace Go.Proofs.L
theorem u32w (x : Int) : IntKind.u32.wrap x = x % 4294967296 := by simp [IntKind.wrap, IntKind.bits, IntKind.signed]
theorem u32b (a : Nat) (h : a < 4294967296) : (BitVec.ofInt 32 (a : Int)).toNat = a := by
  rw [BitVec.ofInt_natCast, BitVec.toNat_ofNat]; exact Nat.mod_eq_of_lt h
theorem and32 (a b : Nat) (ha : a < 4294967296) (hb : b < 4294967296) : bits .and .u32 (a : Int) (b : Int) = ((a &&& b : Nat) : Int) := by
  show IntKind.u32.wrap ((BitVec.ofInt 32 (a : Int) &&& BitVec.ofInt 32 (b : Int)).toNat : Int) = _
  rw [BitVec.toNat_and, u32b a ha, u32b b hb, u32w]
  have := Nat.lt_of_le_of_lt (Nat.and_le_left (n := a) (m := b)) ha
  omega
theorem or32 (a b : Nat) (ha : a < 4294967296) (hb : b < 4294967296) : bits .or .u32 (a : Int) (b : Int) = ((a ||| b : Nat) : Int) := by
  show IntKind.u32.wrap ((BitVec.ofInt 32 (a : Int) ||| BitVec.ofInt 32 (b : Int)).toNat : Int) = _
  rw [BitVec.toNat_or, u32b a ha, u32b b hb, u32w]
  have := Nat.or_lt_two_pow (n := 32) ha hb
  omega
/-- the lowest n bits -/
theorem and_low (a n : Nat) : a &&& (2 ^ n - 1) = a % 2 ^ n := Nat.and_two_pow_sub_one_eq_mod a n
/-- two numbers whose bits lie apart -/
theorem or_apart (a b n : Nat) (hb : b < 2 ^ n) : (a * 2 ^ n) ||| b = a * 2 ^ n + b := by
  rw [Nat.mul_comm, Nat.two_pow_add_eq_or_of_lt hb]
/-- the lowest n bits of x with their sign, in 32 bits -/
def sx (n x : Nat) : Nat := if x % 2 ^ n < 2 ^ (n - 1) then x % 2 ^ n else x % 2 ^ n + (2 ^ 32 - 2 ^ n)
theorem sx12 (x : Nat) : (wrap32 ((x : Int) * 1048576 % 4294967296)) / 1048576 % 4294967296 = ((sx 12 x : Nat) : Int) := by
  simp only [sx, wrap32, Nat.reducePow, Nat.reduceSub]
  split <;> omega
theorem sx13 (x : Nat) : (wrap32 ((x : Int) * 524288 % 4294967296)) / 524288 % 4294967296 = ((sx 13 x : Nat) : Int) := by
  simp only [sx, wrap32, Nat.reducePow, Nat.reduceSub]
  split <;> omega
theorem sx21 (x : Nat) : (wrap32 ((x : Int) * 2048 % 4294967296)) / 2048 % 4294967296 = ((sx 21 x : Nat) : Int) := by
  simp only [sx, wrap32, Nat.reducePow, Nat.reduceSub]
  split <;> omega
def immI (w : Nat) : Nat := sx 12 (w / 1048576)
def immS (w : Nat) : Nat := sx 12 (w / 33554432 * 32 + w / 128 % 32)
def immB (w : Nat) : Nat := sx 13 (w / 2147483648 * 4096 + w / 128 % 2 * 2048 + w / 33554432 % 64 * 32 + w / 256 % 16 * 2)
def immU (w : Nat) : Nat := w / 4096 * 4096
def immJ (w : Nat) : Nat := sx 21 (w / 2147483648 * 1048576 + w / 4096 % 256 * 4096 + w / 1048576 % 2 * 2048 + w / 2097152 % 1024 * 2)
theorem ret_u {a b : Int} (h : a = b) : Ending.returned (.int .u32 a) = .returned (.int .u32 b) := by rw [h]
theorem ret_i {a b : Int} (h : a = b) : Ending.returned (.int .i64 a) = .returned (.int .i64 b) := by rw [h]
theorem immI_any (x : Nat) (hx : x < 4294967296) (w : World) : Calls Tryd.prog 16 #[.int .u32 (x : Int)] w fun e w' => e = .returned (.int .u32 (immI x : Nat)) ∧ w' = w := by
  go_enter Tryd.func16, Tryd.ntmps16
  go_wp2
  go_ret
  refine ⟨ret_u ?_, rfl⟩
  show wrap32 ((x : Int) / 1048576 * 1048576) / 1048576 % 4294967296 = _
  (simp only [immI, sx, wrap32, Nat.reducePow, Nat.reduceSub]; split <;> omega)
theorem band (x d m n : Nat) (hx : x < 4294967296) (hm : m = 2 ^ n - 1) (hm2 : m < 4294967296) (hd : 0 < d) : bits .and .u32 ((x : Int) / (d : Int)) (m : Int) = ((x / d % 2 ^ n : Nat) : Int) := by
  rw [← Int.natCast_ediv, and32 _ _ (Nat.lt_of_le_of_lt (Nat.div_le_self x d) hx) hm2, hm, and_low]
theorem bor (a b n : Nat) (hb : b < 2 ^ n) (ha : a * 2 ^ n < 4294967296) (hb2 : b < 4294967296) : bits .or .u32 ((a * 2 ^ n : Nat) : Int) (b : Int) = ((a * 2 ^ n + b : Nat) : Int) := by
  rw [or32 _ _ ha hb2, or_apart a b n hb]
theorem immS_any (x : Nat) (hx : x < 4294967296) (w : World) : Calls Tryd.prog 17 #[.int .u32 (x : Int)] w fun e w' => e = .returned (.int .u32 (immS x : Nat)) ∧ w' = w := by
  have E : bits .or .u32 ((x : Int) / 33554432 * 32) (bits .and .u32 ((x : Int) / 128) 31) = ((x / 33554432 * 32 + x / 128 % 32 : Nat) : Int) := by
    rw [show bits .and .u32 ((x : Int) / 128) 31 = ((x / 128 % 32 : Nat) : Int) from band x 128 31 5 hx rfl (by decide) (by decide), show (x : Int) / 33554432 * 32 = ((x / 33554432 * 2 ^ 5 : Nat) : Int) by omega]
    exact bor _ _ 5 (by omega) (by omega) (by omega)
  obtain ⟨y, hy⟩ : ∃ y, y = x / 33554432 * 32 + x / 128 % 32 := ⟨_, rfl⟩
  rw [← hy] at E
  have HY := Lib.hid hy
  clear hy
  go_enter Tryd.func17, Tryd.ntmps17
  go_wp2
  go_ret
  refine ⟨ret_u ?_, rfl⟩
  show wrap32 ((y : Int) * 1048576 % 4294967296) / 1048576 % 4294967296 = _
  have hy := HY.out
  rw [sx12, hy, immS]
theorem immB_any (x : Nat) (hx : x < 4294967296) (w : World) : Calls Tryd.prog 18 #[.int .u32 (x : Int)] w fun e w' => e = .returned (.int .u32 (immB x : Nat)) ∧ w' = w := by
  have E : bits BinOp.or IntKind.u32 (bits BinOp.or IntKind.u32 (bits BinOp.or IntKind.u32 (↑x / 2147483648 * 4096) (bits BinOp.and IntKind.u32 (↑x / 128) 1 * 2048 % 4294967296)) (bits BinOp.and IntKind.u32 (↑x / 33554432) 63 * 32 % 4294967296)) (bits BinOp.and IntKind.u32 (↑x / 256) 15 * 2 % 4294967296) = ((x / 2147483648 * 4096 + x / 128 % 2 * 2048 + x / 33554432 % 64 * 32 + x / 256 % 16 * 2 : Nat) : Int) := by
    rw [show bits .and .u32 ((x : Int) / 128) 1 = ((x / 128 % 2 : Nat) : Int) from band x 128 1 1 hx rfl (by decide) (by decide), show bits .and .u32 ((x : Int) / 33554432) 63 = ((x / 33554432 % 64 : Nat) : Int) from band x 33554432 63 6 hx rfl (by decide) (by decide), show bits .and .u32 ((x : Int) / 256) 15 = ((x / 256 % 16 : Nat) : Int) from band x 256 15 4 hx rfl (by decide) (by decide)]
    rw [show ((x / 128 % 2 : Nat) : Int) * 2048 % 4294967296 = ((x / 128 % 2 * 2048 : Nat) : Int) by omega, show ((x / 33554432 % 64 : Nat) : Int) * 32 % 4294967296 = ((x / 33554432 % 64 * 32 : Nat) : Int) by omega, show ((x / 256 % 16 : Nat) : Int) * 2 % 4294967296 = ((x / 256 % 16 * 2 : Nat) : Int) by omega,
      show (x : Int) / 2147483648 * 4096 = ((x / 2147483648 * 2 ^ 12 : Nat) : Int) by omega]
    rw [bor _ _ 12 (by omega) (by omega) (by omega), show x / 2147483648 * 2 ^ 12 + x / 128 % 2 * 2048 = (x / 2147483648 * 2 + x / 128 % 2) * 2 ^ 11 by omega, bor _ _ 11 (by omega) (by omega) (by omega),
      show (x / 2147483648 * 2 + x / 128 % 2) * 2 ^ 11 + x / 33554432 % 64 * 32 = ((x / 2147483648 * 2 + x / 128 % 2) * 64 + x / 33554432 % 64) * 2 ^ 5 by omega, bor _ _ 5 (by omega) (by omega) (by omega)]
  obtain ⟨y, hy⟩ : ∃ y, y = x / 2147483648 * 4096 + x / 128 % 2 * 2048 + x / 33554432 % 64 * 32 + x / 256 % 16 * 2 := ⟨_, rfl⟩
  rw [← hy] at E
  have HY := Lib.hid hy
  clear hy
  go_enter Tryd.func18, Tryd.ntmps18
  go_wp2
  go_ret
  refine ⟨ret_u ?_, rfl⟩
  show wrap32 ((y : Int) * 524288 % 4294967296) / 524288 % 4294967296 = _
  have hy := HY.out
  rw [sx13, hy, immB]
theorem immJ_any (x : Nat) (hx : x < 4294967296) (w : World) : Calls Tryd.prog 20 #[.int .u32 (x : Int)] w fun e w' => e = .returned (.int .u32 (immJ x : Nat)) ∧ w' = w := by
  have E : bits BinOp.or IntKind.u32 (bits BinOp.or IntKind.u32 (bits BinOp.or IntKind.u32 (↑x / 2147483648 * 1048576) (bits BinOp.and IntKind.u32 (↑x / 4096) 255 * 4096 % 4294967296)) (bits BinOp.and IntKind.u32 (↑x / 1048576) 1 * 2048 % 4294967296)) (bits BinOp.and IntKind.u32 (↑x / 2097152) 1023 * 2 % 4294967296) = ((x / 2147483648 * 1048576 + x / 4096 % 256 * 4096 + x / 1048576 % 2 * 2048 + x / 2097152 % 1024 * 2 : Nat) : Int) := by
    rw [show bits .and .u32 ((x : Int) / 4096) 255 = ((x / 4096 % 256 : Nat) : Int) from band x 4096 255 8 hx rfl (by decide) (by decide), show bits .and .u32 ((x : Int) / 1048576) 1 = ((x / 1048576 % 2 : Nat) : Int) from band x 1048576 1 1 hx rfl (by decide) (by decide), show bits .and .u32 ((x : Int) / 2097152) 1023 = ((x / 2097152 % 1024 : Nat) : Int) from band x 2097152 1023 10 hx rfl (by decide) (by decide)]
    rw [show ((x / 4096 % 256 : Nat) : Int) * 4096 % 4294967296 = ((x / 4096 % 256 * 4096 : Nat) : Int) by omega, show ((x / 1048576 % 2 : Nat) : Int) * 2048 % 4294967296 = ((x / 1048576 % 2 * 2048 : Nat) : Int) by omega, show ((x / 2097152 % 1024 : Nat) : Int) * 2 % 4294967296 = ((x / 2097152 % 1024 * 2 : Nat) : Int) by omega,
      show (x : Int) / 2147483648 * 1048576 = ((x / 2147483648 * 2 ^ 20 : Nat) : Int) by omega]
    rw [bor _ _ 20 (by omega) (by omega) (by omega), show x / 2147483648 * 2 ^ 20 + x / 4096 % 256 * 4096 = (x / 2147483648 * 256 + x / 4096 % 256) * 2 ^ 12 by omega, bor _ _ 12 (by omega) (by omega) (by omega),
      show (x / 2147483648 * 256 + x / 4096 % 256) * 2 ^ 12 + x / 1048576 % 2 * 2048 = ((x / 2147483648 * 256 + x / 4096 % 256) * 2 + x / 1048576 % 2) * 2 ^ 11 by omega, bor _ _ 11 (by omega) (by omega) (by omega)]
  obtain ⟨y, hy⟩ : ∃ y, y = x / 2147483648 * 1048576 + x / 4096 % 256 * 4096 + x / 1048576 % 2 * 2048 + x / 2097152 % 1024 * 2 := ⟨_, rfl⟩
  rw [← hy] at E
  have HY := Lib.hid hy
  clear hy
  go_enter Tryd.func20, Tryd.ntmps20
  go_wp2
  go_ret
  refine ⟨ret_u ?_, rfl⟩
  show wrap32 ((y : Int) * 2048 % 4294967296) / 2048 % 4294967296 = _
  have hy := HY.out
  rw [sx21, hy, immJ]
theorem andNot32 (a m : Nat) (ha : a < 4294967296) : bits .andNot .u32 (a : Int) ((2 ^ 12 - 1 : Nat) : Int) = ((a / 4096 * 4096 : Nat) : Int) := by
  show IntKind.u32.wrap ((BitVec.ofInt 32 (a : Int) &&& ~~~ BitVec.ofInt 32 (((2 ^ 12 - 1 : Nat)) : Int)).toNat : Int) = _
  have h : (BitVec.ofInt 32 (a : Int) &&& ~~~ BitVec.ofInt 32 (((2 ^ 12 - 1 : Nat)) : Int)).toNat = a / 4096 * 4096 := by
    rw [BitVec.toNat_and, BitVec.toNat_not, u32b a ha, u32b _ (by decide)]
    apply Nat.eq_of_testBit_eq
    intro i
    rw [Nat.testBit_and, show a / 4096 * 4096 = 2 ^ 12 * (a / 2 ^ 12) by omega, Nat.testBit_two_pow_mul, Nat.testBit_div_two_pow, show 2 ^ 32 - 1 - (2 ^ 12 - 1) = 2 ^ 12 * (2 ^ 20 - 1) by decide, Nat.testBit_two_pow_mul, Nat.testBit_two_pow_sub_one]
    by_cases h : i < 32
    · by_cases h2 : 12 ≤ i
      · simp [h2, show i - 12 < 20 by omega]
      · simp [h2]
    · have : a.testBit i = false := Nat.testBit_lt_two_pow (Nat.lt_of_lt_of_le ha (Nat.pow_le_pow_right (n := 2) (by decide) (show 32 ≤ i by omega)))
      rw [this]
      simp
      intro h3
      rw [show i - 12 + 12 = i by omega]; exact this
  rw [h, u32w]; omega
theorem immU_any (x : Nat) (hx : x < 4294967296) (w : World) : Calls Tryd.prog 19 #[.int .u32 (x : Int)] w fun e w' => e = .returned (.int .u32 (immU x : Nat)) ∧ w' = w := by
  have E : bits .andNot .u32 (x : Int) 4095 = ((x / 4096 * 4096 : Nat) : Int) := andNot32 x 0 hx
  obtain ⟨y, hy⟩ : ∃ y, y = x / 4096 * 4096 := ⟨_, rfl⟩
  rw [← hy] at E
  have HY := Lib.hid hy
  clear hy
  go_enter Tryd.func19, Tryd.ntmps19
  go_wp2
  go_ret
  refine ⟨ret_u ?_, rfl⟩
  show (y : Int) = _
  rw [HY.out, immU]
end Go.Proofs.L
