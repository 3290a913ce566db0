/- Proved here: lemmas and contracts (SetLaw) for the laws of this seat, for all values of the stated types; no further condition. -/
import Derived.Test.YtdccfeideihmiaaDoorSetSelf
import Derived.Test.YtdccfeideihmiaaDoorRefDecode
open Go Go.RowKit Go.Lib
namespace Go.Proofs.L
theorem or_hole (a a0 b m n : Nat) (h0 : a0 < 2 ^ m) (hb : b < 2 ^ n) : (a * 2 ^ (m + n) + a0) ||| (b * 2 ^ m) = a * 2 ^ (m + n) + b * 2 ^ m + a0 := by
  have e1 : a * 2 ^ (m + n) + a0 = (2 ^ m * (2 ^ n * a)) ||| a0 := by
    rw [← Nat.two_pow_add_eq_or_of_lt h0, Nat.pow_add, ← Nat.mul_assoc (2 ^ m), Nat.mul_comm a]
  have e2 : (2 ^ m * (2 ^ n * a)) ||| (b * 2 ^ m) = 2 ^ m * (2 ^ n * a ||| b) := by
    have := Nat.shiftLeft_or_distrib (a := 2 ^ n * a) (b := b) (i := m)
    simp only [Nat.shiftLeft_eq] at this
    rw [Nat.mul_comm (2 ^ m) (2 ^ n * a), ← this, Nat.mul_comm]
  rw [e1, Nat.or_assoc, Nat.or_comm a0, ← Nat.or_assoc, e2, ← Nat.two_pow_add_eq_or_of_lt hb, ← Nat.two_pow_add_eq_or_of_lt h0, Nat.mul_add, ← Nat.mul_assoc, ← Nat.pow_add, Nat.mul_comm a, Nat.mul_comm b]
theorem w64n (r : Nat) (hr : r < 9223372036854775808) : IntKind.i64.wrap (r : Int) = (r : Int) := by
  have e : IntKind.i64.wrap (r : Int) = wrap64 (r : Int) := by simp [IntKind.wrap, IntKind.bits, IntKind.signed, wrap64]; split <;> omega
  rw [e, IntWalk.wrap64_in _ ⟨by omega, by omega⟩]
theorem low64 (v : Int) : bits .and .i64 v 1 = v % 2 := by
  show IntKind.i64.wrap ((BitVec.ofInt 64 v &&& BitVec.ofInt 64 1).toNat : Int) = _
  rw [BitVec.toNat_and, show (BitVec.ofInt 64 1).toNat = 2 ^ 1 - 1 by decide, and_low, BitVec.toNat_ofInt, w64n _ (by omega)]
  omega
theorem not64 (P : Nat) (hP : P < 4294967296) : bits BinOp.xor IntKind.i64 (if IntKind.i64.signed = true then -1 else 9223372036854775807) (P : Int) = -1 - (P : Int) := by
  show IntKind.i64.wrap ((BitVec.ofInt 64 (-1) ^^^ BitVec.ofInt 64 (P : Int)).toNat : Int) = _
  rw [show BitVec.ofInt 64 (-1) = BitVec.allOnes 64 by decide, BitVec.allOnes_xor, BitVec.toNat_not, i64b P (by omega), IntKind.wrap_i64]
  omega
theorem or64 (a b : Nat) (ha : a < 4294967296) (hb : b < 4294967296) : bits .or .i64 (a : Int) (b : Int) = ((a ||| b : Nat) : Int) := by
  show IntKind.i64.wrap ((BitVec.ofInt 64 (a : Int) ||| BitVec.ofInt 64 (b : Int)).toNat : Int) = _
  rw [BitVec.toNat_or, i64b a (by omega), i64b b (by omega), w64n]
  have := Nat.or_lt_two_pow (n := 32) ha hb
  omega
theorem bl_mod (b L k : Nat) (hL : L < 2 ^ k) : (b * 2 ^ k + L) % 2 ^ k = L := by
  rw [Nat.mul_comm, Nat.mul_add_mod, Nat.mod_eq_of_lt hL]
theorem clear_bit (A b L k : Nat) (hk : k < 32) (hb : b < 2) (hL : L < 2 ^ k) (hA : A < 4294967296) : (A * 2 ^ (k + 1) + (b * 2 ^ k + L)) &&& (2 ^ 64 - 1 - 2 ^ k) = A * 2 ^ (k + 1) + L := by
  have hbl : b * 2 ^ k + L < 2 ^ (k + 1) := by
    rw [Nat.pow_succ]
    have : b * 2 ^ k ≤ 1 * 2 ^ k := Nat.mul_le_mul_right _ (by omega)
    omega
  have hp : 0 < 2 ^ k := Nat.two_pow_pos k
  have h64 : 2 ^ 64 = 2 ^ (k + 1) * 2 ^ (63 - k) := by rw [← Nat.pow_add]; congr 1; omega
  have h63 : 1 ≤ 2 ^ (63 - k) := Nat.one_le_two_pow
  have hm : 2 ^ 64 - 1 - 2 ^ k = 2 ^ (k + 1) * (2 ^ (63 - k) - 1) + (2 ^ k - 1) := by
    rw [Nat.mul_sub, ← h64, Nat.mul_one]
    have : 2 ^ (k + 1) ≤ 2 ^ 64 := Nat.pow_le_pow_right (by decide) (by omega)
    rw [Nat.pow_succ] at *
    omega
  have hA2 : A < 2 ^ (63 - k) := Nat.lt_of_lt_of_le hA (by
    rw [show (4294967296 : Nat) = 2 ^ 32 by decide]
    by_cases h : k = 31
    · subst h; decide
    · exact Nat.pow_le_pow_right (by decide) (by omega))
  rw [hm, Nat.mul_comm A, and_split A _ _ _ (k + 1) hbl (by rw [Nat.pow_succ]; omega), and_low, and_low, Nat.mod_eq_of_lt hA2, bl_mod b L k hL]
theorem and_clear (A b L k m : Nat) (hm : m = A * 2 ^ (k + 1) + (b * 2 ^ k + L)) (hk : k < 32) (hb : b < 2) (hL : L < 2 ^ k) (hm2 : m < 4294967296) : bits .and .i64 (m : Int) (-1 - ((2 ^ k : Nat) : Int)) = ((A * 2 ^ (k + 1) + L : Nat) : Int) := by
  have hP : 2 ^ k ≤ 2 ^ 32 := Nat.pow_le_pow_right (by decide) (by omega)
  have h32 : (2 : Nat) ^ 32 = 4294967296 := by decide
  have hA : A < 4294967296 := by
    have : A * 1 ≤ A * 2 ^ (k + 1) := Nat.mul_le_mul_left _ Nat.one_le_two_pow
    omega
  have hc := clear_bit A b L k hk hb hL hA
  rw [← hm] at hc
  have h2 : (BitVec.ofInt 64 (-1 - ((2 ^ k : Nat) : Int))).toNat = 2 ^ 64 - 1 - 2 ^ k := by rw [BitVec.toNat_ofInt]; omega
  show IntKind.i64.wrap ((BitVec.ofInt 64 (m : Int) &&& BitVec.ofInt 64 (-1 - ((2 ^ k : Nat) : Int))).toNat : Int) = _
  rw [BitVec.toNat_and, i64b m (by omega), h2, hc, w64n]
  rw [← hc]
  have := Nat.and_le_left (n := m) (m := 2 ^ 64 - 1 - 2 ^ k)
  omega
end Go.Proofs.L
