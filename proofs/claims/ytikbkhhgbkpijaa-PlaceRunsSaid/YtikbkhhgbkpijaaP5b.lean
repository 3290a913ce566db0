/- Proved here: lemmas and contracts (P5b) for the laws of this seat, for all values of the stated types; no further condition. -/
import Derived.Test.YtikbkhhgbkpijaaP5
open Go Go.RowKit Go.Lib
namespace Go.Proofs.L
theorem lt_of_row {w : World} {b : Nat} {cs : Array Value} (h : w.row? b = some cs) : b < w.heap.size := by
  obtain ⟨t, h⟩ := row_iff.1 h
  exact (Array.getElem?_eq_some_iff.1 h).1
theorem or32 (x c m : Nat) (hx : x < 2 ^ m) (hb : x + c * 2 ^ m < 4294967296) : bits .or .u32 (x : Int) ((c * 2 ^ m : Nat) : Int) = ((x + c * 2 ^ m : Nat) : Int) := by
  show IntKind.u32.wrap ((BitVec.ofInt 32 (x : Int) ||| BitVec.ofInt 32 ((c * 2 ^ m : Nat) : Int)).toNat : Int) = _
  have h1 : (BitVec.ofInt 32 (x : Int)).toNat = x := by rw [BitVec.ofInt_natCast, BitVec.toNat_ofNat]; exact Nat.mod_eq_of_lt (by omega)
  have h2 : (BitVec.ofInt 32 ((c * 2 ^ m : Nat) : Int)).toNat = c * 2 ^ m := by rw [BitVec.ofInt_natCast, BitVec.toNat_ofNat]; exact Nat.mod_eq_of_lt (by omega)
  have h3 : x ||| c * 2 ^ m = x + c * 2 ^ m := by
    have := Nat.two_pow_add_eq_or_of_lt hx c
    rw [Nat.or_comm, Nat.mul_comm c, ← this]; omega
  rw [BitVec.toNat_or, h1, h2, h3]
  exact u32_id (by omega)
theorem or64 (x c m : Nat) (hx : x < 2 ^ m) (hb : x + c * 2 ^ m < 18446744073709551616) : bits .or .u64 (x : Int) ((c * 2 ^ m : Nat) : Int) = ((x + c * 2 ^ m : Nat) : Int) := by
  show IntKind.u64.wrap ((BitVec.ofInt 64 (x : Int) ||| BitVec.ofInt 64 ((c * 2 ^ m : Nat) : Int)).toNat : Int) = _
  have h1 : (BitVec.ofInt 64 (x : Int)).toNat = x := by rw [BitVec.ofInt_natCast, BitVec.toNat_ofNat]; exact Nat.mod_eq_of_lt (by omega)
  have h2 : (BitVec.ofInt 64 ((c * 2 ^ m : Nat) : Int)).toNat = c * 2 ^ m := by rw [BitVec.ofInt_natCast, BitVec.toNat_ofNat]; exact Nat.mod_eq_of_lt (by omega)
  have h3 : x ||| c * 2 ^ m = x + c * 2 ^ m := by
    have := Nat.two_pow_add_eq_or_of_lt hx c
    rw [Nat.or_comm, Nat.mul_comm c, ← this]; omega
  rw [BitVec.toNat_or, h1, h2, h3]
  exact u64_id (by omega) (by omega)
theorem and255 (x : Nat) (hx : x < 4294967296) : bits .and .u32 (x : Int) 255 = ((x % 256 : Nat) : Int) := by
  show IntKind.u32.wrap ((BitVec.ofInt 32 (x : Int) &&& BitVec.ofInt 32 ((255 : Nat) : Int)).toNat : Int) = _
  rw [BitVec.toNat_and, BitVec.ofInt_natCast, BitVec.ofInt_natCast, BitVec.toNat_ofNat, BitVec.toNat_ofNat, Nat.mod_eq_of_lt hx]
  rw [show 255 % 2 ^ 32 = 2 ^ 8 - 1 from rfl, Nat.and_two_pow_sub_one_eq_mod]
  exact u32_id (by omega)
theorem words_end (o x y : Nat) (hx : x < 4294967296) (hy : y < 4294967296) :
    ((leN (fun i => stN (F8 o x y) (o + 3) 43981 2 i) (o + 2) 4 : Int) == bits .or .u32 (bits .or .u32 (bits .and .u32 ((x : Int) / 65536) 255) 11259136) (bits .and .u32 ((y : Int) / 256) 255 * 16777216 % 4294967296)) = true := by
  have a1 : bits .and .u32 ((x : Int) / 65536) 255 = ((x / 65536 % 256 : Nat) : Int) := and255 (x / 65536) (by omega)
  have a2 : bits .and .u32 ((y : Int) / 256) 255 = ((y / 256 % 256 : Nat) : Int) := and255 (y / 256) (by omega)
  have a3 : bits .or .u32 ((x / 65536 % 256 : Nat) : Int) 11259136 = ((x / 65536 % 256 + 11259136 : Nat) : Int) := or32 _ 43981 8 (by omega) (by omega)
  have a4 : ((y / 256 % 256 : Nat) : Int) * 16777216 % 4294967296 = ((y / 256 % 256 * 2 ^ 24 : Nat) : Int) := by omega
  have a5 := or32 (x / 65536 % 256 + 11259136) (y / 256 % 256) 24 (by omega) (by omega)
  rw [a1, a2, a3, a4, a5, beq_iff_eq]
  congr 1
  have g := F8_get o x y hx
  have g2 := g 2 (by omega)
  have g5 := g 5 (by omega)
  simp only [leN, stN, up]
  simp only [Nat.add_assoc, Nat.add_left_cancel_iff, Nat.reduceAdd, Nat.reduceEqDiff, if_true, if_false, Nat.reduceMul, Nat.add_zero, g2, g5]
  omega
end Go.Proofs.L
