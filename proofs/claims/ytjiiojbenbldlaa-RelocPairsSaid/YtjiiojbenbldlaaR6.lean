/- Proved here: lemmas and contracts (R6) for the laws of this seat, for all values of the stated types; no further condition. -/
import Derived.Test.YtjiiojbenbldlaaR5
import Derived.Test.YtjiiojbenbldlaaK1
open Go Go.RowKit Go.Lib
namespace Go.Proofs.L
theorem shl32 (a k : Nat) (c : Int) (hc : c = (2 ^ k : Nat)) : (a : Int) * c % 4294967296 = ((a <<< k % 2 ^ 32 : Nat) : Int) := by
  subst hc; rw [Nat.shiftLeft_eq]; simp
theorem shr32 (a k : Nat) (c : Int) (hc : c = (2 ^ k : Nat)) : (a : Int) / c = ((a >>> k : Nat) : Int) := by
  subst hc; rw [Nat.shiftRight_eq_div_pow]; simp
theorem and32m (a m : Nat) (hm : m < 4294967296) : bits .and .u32 (a : Int) (m : Int) = ((a &&& m : Nat) : Int) := by
  show IntKind.u32.wrap ((BitVec.ofInt 32 (a : Int) &&& BitVec.ofInt 32 (m : Int)).toNat : Int) = _
  rw [BitVec.toNat_and, u32b m hm, u32w, BitVec.ofInt_natCast, BitVec.toNat_ofNat]
  have e : a % 2 ^ 32 &&& m = a &&& m := by
    apply Nat.eq_of_testBit_eq; intro i
    rw [Nat.testBit_and, Nat.testBit_and, Nat.testBit_mod_two_pow]
    by_cases h : i < 32
    · simp [h]
    · rw [show m.testBit i = false from Nat.testBit_lt_two_pow (Nat.lt_of_lt_of_le hm (by
        show 2 ^ 32 ≤ 2 ^ i
        exact Nat.pow_le_pow_right (by decide) (by omega)))]; simp
  rw [e]
  have := Nat.lt_of_le_of_lt (Nat.and_le_right (n := a) (m := m)) hm
  omega
theorem sh_lt (a : Nat) : a % 2 ^ 32 < 4294967296 := Nat.mod_lt _ (by decide)
theorem and_lt (a m : Nat) (hm : m < 4294967296) : a &&& m < 4294967296 := Nat.lt_of_le_of_lt Nat.and_le_right hm
theorem or_lt {a b : Nat} (ha : a < 4294967296) (hb : b < 4294967296) : a ||| b < 4294967296 := Nat.or_lt_two_pow (n := 32) ha hb
theorem setI_lt (w x : Nat) : setI w x < 4294967296 := or_lt (and_lt _ _ (by decide)) (sh_lt _)
theorem setS_lt (w x : Nat) : setS w x < 4294967296 := or_lt (or_lt (and_lt _ _ (by decide)) (sh_lt _)) (sh_lt _)
theorem setB_lt (w x : Nat) : setB w x < 4294967296 := or_lt (or_lt (or_lt (or_lt (and_lt _ _ (by decide)) (sh_lt _)) (sh_lt _)) (sh_lt _)) (sh_lt _)
theorem setJ_lt (w x : Nat) : setJ w x < 4294967296 := or_lt (or_lt (or_lt (or_lt (and_lt _ _ (by decide)) (sh_lt _)) (sh_lt _)) (sh_lt _)) (sh_lt _)
theorem up_lt (x : Nat) (hx : x < 4294967296) : (x >>> 12) <<< 12 < 4294967296 := by rw [Nat.shiftLeft_eq, Nat.shiftRight_eq_div_pow]; omega
theorem setU_lt (w x : Nat) (hx : x < 4294967296) : setU w x < 4294967296 := or_lt (and_lt _ _ (by decide)) (up_lt x hx)
theorem setI_any (w x : Nat) (W : World) : Calls Try.prog 41 #[.int .u32 (w : Int), .int .u32 (x : Int)] W fun e w' => e = .returned (.int .u32 (setI w x : Nat)) ∧ w' = W := by
  go_enter Try.func41, Try.ntmps41
  go_wp2
  go_ret
  refine ⟨ret_u ?_, rfl⟩
  rw [show bits .and .u32 (w : Int) 1048575 = _ from and32m w 1048575 (by decide), shl32 x 20 1048576 rfl, or32 _ _ (and_lt _ _ (by decide)) (sh_lt _)]; rfl
theorem setS_any (w x : Nat) (W : World) : Calls Try.prog 43 #[.int .u32 (w : Int), .int .u32 (x : Int)] W fun e w' => e = .returned (.int .u32 (setS w x : Nat)) ∧ w' = W := by
  go_enter Try.func43, Try.ntmps43
  go_wp2
  go_ret
  refine ⟨ret_u ?_, rfl⟩
  rw [show bits .and .u32 (w : Int) 33550463 = _ from and32m w 33550463 (by decide), shr32 x 5 32 rfl, show bits .and .u32 ((x >>> 5 : Nat) : Int) 127 = _ from and32m _ 127 (by decide), shl32 (x >>> 5 &&& 127) 25 33554432 rfl, show bits .and .u32 (x : Int) 31 = _ from and32m x 31 (by decide), shl32 (x &&& 31) 7 128 rfl,
    or32 _ _ (and_lt _ _ (by decide)) (sh_lt _), or32 _ _ (or_lt (and_lt _ _ (by decide)) (sh_lt _)) (sh_lt _)]; rfl
theorem setB_any (w x : Nat) (W : World) : Calls Try.prog 39 #[.int .u32 (w : Int), .int .u32 (x : Int)] W fun e w' => e = .returned (.int .u32 (setB w x : Nat)) ∧ w' = W := by
  go_enter Try.func39, Try.ntmps39
  go_wp2
  go_ret
  refine ⟨ret_u ?_, rfl⟩
  rw [show bits .and .u32 (w : Int) 33550463 = _ from and32m w 33550463 (by decide), shr32 x 12 4096 rfl, show bits .and .u32 ((x >>> 12 : Nat) : Int) 1 = _ from and32m _ 1 (by decide), shl32 (x >>> 12 &&& 1) 31 2147483648 rfl,
    shr32 x 5 32 rfl, show bits .and .u32 ((x >>> 5 : Nat) : Int) 63 = _ from and32m _ 63 (by decide), shl32 (x >>> 5 &&& 63) 25 33554432 rfl,
    shr32 x 1 2 rfl, show bits .and .u32 ((x >>> 1 : Nat) : Int) 15 = _ from and32m _ 15 (by decide), shl32 (x >>> 1 &&& 15) 8 256 rfl,
    shr32 x 11 2048 rfl, show bits .and .u32 ((x >>> 11 : Nat) : Int) 1 = _ from and32m _ 1 (by decide), shl32 (x >>> 11 &&& 1) 7 128 rfl,
    or32 _ _ (and_lt _ _ (by decide)) (sh_lt _), or32 _ _ (or_lt (and_lt _ _ (by decide)) (sh_lt _)) (sh_lt _), or32 _ _ (or_lt (or_lt (and_lt _ _ (by decide)) (sh_lt _)) (sh_lt _)) (sh_lt _), or32 _ _ (or_lt (or_lt (or_lt (and_lt _ _ (by decide)) (sh_lt _)) (sh_lt _)) (sh_lt _)) (sh_lt _)]; rfl
theorem setU_any (w x : Nat) (hx : x < 4294967296) (W : World) : Calls Try.prog 42 #[.int .u32 (w : Int), .int .u32 (x : Int)] W fun e w' => e = .returned (.int .u32 (setU w x : Nat)) ∧ w' = W := by
  go_enter Try.func42, Try.ntmps42
  go_wp2
  go_ret
  refine ⟨ret_u ?_, rfl⟩
  rw [show bits .and .u32 (w : Int) 4095 = _ from and32m w 4095 (by decide), show bits .andNot .u32 (x : Int) 4095 = (((x >>> 12) <<< 12 : Nat) : Int) by
    have := andNot32 x 0 hx
    rw [Nat.shiftLeft_eq, Nat.shiftRight_eq_div_pow]
    exact this, or32 _ _ (and_lt _ _ (by decide)) (up_lt x hx)]; rfl
theorem setJ_any (w x : Nat) (W : World) : Calls Try.prog 40 #[.int .u32 (w : Int), .int .u32 (x : Int)] W fun e w' => e = .returned (.int .u32 (setJ w x : Nat)) ∧ w' = W := by
  go_enter Try.func40, Try.ntmps40
  go_wp2
  go_ret
  refine ⟨ret_u ?_, rfl⟩
  rw [show bits .and .u32 (w : Int) 4095 = _ from and32m w 4095 (by decide), shr32 x 20 1048576 rfl, show bits .and .u32 ((x >>> 20 : Nat) : Int) 1 = _ from and32m _ 1 (by decide), shl32 (x >>> 20 &&& 1) 31 2147483648 rfl,
    shr32 x 1 2 rfl, show bits .and .u32 ((x >>> 1 : Nat) : Int) 1023 = _ from and32m _ 1023 (by decide), shl32 (x >>> 1 &&& 1023) 21 2097152 rfl,
    shr32 x 11 2048 rfl, show bits .and .u32 ((x >>> 11 : Nat) : Int) 1 = _ from and32m _ 1 (by decide), shl32 (x >>> 11 &&& 1) 20 1048576 rfl,
    shr32 x 12 4096 rfl, show bits .and .u32 ((x >>> 12 : Nat) : Int) 255 = _ from and32m _ 255 (by decide), shl32 (x >>> 12 &&& 255) 12 4096 rfl,
    or32 _ _ (and_lt _ _ (by decide)) (sh_lt _), or32 _ _ (or_lt (and_lt _ _ (by decide)) (sh_lt _)) (sh_lt _), or32 _ _ (or_lt (or_lt (and_lt _ _ (by decide)) (sh_lt _)) (sh_lt _)) (sh_lt _), or32 _ _ (or_lt (or_lt (or_lt (and_lt _ _ (by decide)) (sh_lt _)) (sh_lt _)) (sh_lt _)) (sh_lt _)]; rfl
end Go.Proofs.L
