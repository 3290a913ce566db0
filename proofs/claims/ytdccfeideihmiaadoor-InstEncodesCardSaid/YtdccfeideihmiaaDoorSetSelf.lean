/- Proved here: lemmas and contracts (SetSelf) for the laws of this seat, for all values of the stated types; no further condition. -/
import Derived.Test.YtdccfeideihmiaaDoorSets
open Go Go.RowKit Go.Lib
namespace Go.Proofs.L
theorem tb_lt (x i : Nat) (hx : x < 4294967296) (hi : 32 ≤ i) : x.testBit i = false :=
  Nat.testBit_lt_two_pow (Nat.lt_of_lt_of_le hx (by show 2 ^ 32 ≤ 2 ^ i; exact Nat.pow_le_pow_right (by decide) hi))
theorem set_self (pl : Nat → Option Nat) (S w x : Nat) (hS : S < 4294967296) (hw : w < 4294967296) (h : Put pl S w x) (hk : ∀ i, i < 32 → src w x i (pl i) = w.testBit i) : S = w := by
  apply Nat.eq_of_testBit_eq
  intro i
  by_cases hi : i < 32
  · rw [h i hi, hk i hi]
  · rw [tb_lt S i hS (by omega), tb_lt w i hw (by omega)]
theorem sx_tb (n y k : Nat) (hk : k < n) (hn : n ≤ 32) : (sx n y).testBit k = y.testBit k := by
  have e : sx n y % 2 ^ n = y % 2 ^ n := by
    have hp : 2 ^ 32 = 2 ^ (32 - n) * 2 ^ n := by rw [← Nat.pow_add]; congr 1; omega
    have hd : 2 ^ 32 - 2 ^ n = (2 ^ (32 - n) - 1) * 2 ^ n := by rw [Nat.sub_mul, ← hp, Nat.one_mul]
    unfold sx
    split
    · rw [Nat.mod_mod]
    · rw [hd, Nat.add_mul_mod_self_right, Nat.mod_mod]
  have a := tb_mod (sx n y) n k
  have b := tb_mod y n k
  rw [e] at a
  rw [a] at b
  simpa [hk] using b
theorem immS_or (w : Nat) : w / 33554432 * 32 + w / 128 % 32 = (w >>> 25) <<< 5 ||| (w >>> 7 &&& 31) := by
  rw [Nat.shiftLeft_eq, Nat.shiftRight_eq_div_pow, Nat.shiftRight_eq_div_pow, show (31 : Nat) = 2 ^ 5 - 1 from rfl, and_low, or_apart _ _ 5 (Nat.mod_lt _ (by decide))]
theorem immB_or (w : Nat) : w / 2147483648 * 4096 + w / 128 % 2 * 2048 + w / 33554432 % 64 * 32 + w / 256 % 16 * 2 = ((w >>> 31 <<< 12 ||| (w >>> 7 &&& 1) <<< 11) ||| (w >>> 25 &&& 63) <<< 5) ||| (w >>> 8 &&& 15) <<< 1 := by
  simp only [Nat.shiftLeft_eq, Nat.shiftRight_eq_div_pow]
  rw [show (1 : Nat) = 2 ^ 1 - 1 from rfl, show (15 : Nat) = 2 ^ 4 - 1 from rfl, show (63 : Nat) = 2 ^ 6 - 1 from rfl, and_low, and_low, and_low]
  rw [or_apart (w / 2 ^ 31) (w / 2 ^ 7 % 2 ^ 1 * 2 ^ 11) 12 (by omega)]
  rw [show w / 2 ^ 31 * 2 ^ 12 + w / 2 ^ 7 % 2 ^ 1 * 2 ^ 11 = (w / 2 ^ 31 * 2 + w / 2 ^ 7 % 2 ^ 1) * 2 ^ 11 by omega, or_apart _ (w / 2 ^ 25 % 2 ^ 6 * 2 ^ 5) 11 (by omega)]
  rw [show (w / 2 ^ 31 * 2 + w / 2 ^ 7 % 2 ^ 1) * 2 ^ 11 + w / 2 ^ 25 % 2 ^ 6 * 2 ^ 5 = ((w / 2 ^ 31 * 2 + w / 2 ^ 7 % 2 ^ 1) * 64 + w / 2 ^ 25 % 2 ^ 6) * 2 ^ 5 by omega, or_apart _ (w / 2 ^ 8 % 2 ^ 4 * 2 ^ (2 ^ 1 - 1)) 5 (by omega)]
theorem immJ_or (w : Nat) : w / 2147483648 * 1048576 + w / 4096 % 256 * 4096 + w / 1048576 % 2 * 2048 + w / 2097152 % 1024 * 2 = ((w >>> 31 <<< 20 ||| (w >>> 12 &&& 255) <<< 12) ||| (w >>> 20 &&& 1) <<< 11) ||| (w >>> 21 &&& 1023) <<< 1 := by
  simp only [Nat.shiftLeft_eq, Nat.shiftRight_eq_div_pow]
  rw [show (1 : Nat) = 2 ^ 1 - 1 from rfl, show (255 : Nat) = 2 ^ 8 - 1 from rfl, show (1023 : Nat) = 2 ^ 10 - 1 from rfl, and_low, and_low, and_low]
  rw [or_apart (w / 2 ^ 31) (w / 2 ^ 12 % 2 ^ 8 * 2 ^ 12) 20 (by omega)]
  rw [show w / 2 ^ 31 * 2 ^ 20 + w / 2 ^ 12 % 2 ^ 8 * 2 ^ 12 = (w / 2 ^ 31 * 256 + w / 2 ^ 12 % 2 ^ 8) * 2 ^ 12 by omega, or_apart _ (w / 2 ^ 20 % 2 ^ 1 * 2 ^ 11) 12 (by omega)]
  rw [show (w / 2 ^ 31 * 256 + w / 2 ^ 12 % 2 ^ 8) * 2 ^ 12 + w / 2 ^ 20 % 2 ^ 1 * 2 ^ 11 = ((w / 2 ^ 31 * 256 + w / 2 ^ 12 % 2 ^ 8) * 2 + w / 2 ^ 20 % 2 ^ 1) * 2 ^ 11 by omega, or_apart _ (w / 2 ^ 21 % 2 ^ 10 * 2 ^ (2 ^ 1 - 1)) 11 (by omega)]
theorem selfI (w : Nat) (hw : w < 4294967296) : setI w (immI w) = w := by
  refine set_self plI _ _ _ (setI_lt _ _) hw (putI _ _) ?_
  have e : ∀ k, k < 12 → (immI w).testBit k = (w >>> 20).testBit k := fun k hk => by unfold immI; rw [sx_tb _ _ _ hk (by omega), Nat.shiftRight_eq_div_pow]
  refine lt32 ?_ ?_ ?_ ?_ ?_ ?_ ?_ ?_ ?_ ?_ ?_ ?_ ?_ ?_ ?_ ?_ ?_ ?_ ?_ ?_ ?_ ?_ ?_ ?_ ?_ ?_ ?_ ?_ ?_ ?_ ?_ ?_ <;> simp (disch := decide) [src, plI, e, Nat.testBit_or, Nat.testBit_and, Nat.testBit_shiftLeft, Nat.testBit_shiftRight, -Nat.and_one_is_mod, tbm1, tbm4, tbm5, tbm6, tbm7, tbm8, tbm10, tbm12, tbm20]
theorem selfS (w : Nat) (hw : w < 4294967296) : setS w (immS w) = w := by
  refine set_self plS _ _ _ (setS_lt _ _) hw (putS _ _) ?_
  have e : ∀ k, k < 12 → (immS w).testBit k = ((w >>> 25) <<< 5 ||| (w >>> 7 &&& 31)).testBit k := fun k hk => by unfold immS; rw [sx_tb _ _ _ hk (by omega), immS_or]
  refine lt32 ?_ ?_ ?_ ?_ ?_ ?_ ?_ ?_ ?_ ?_ ?_ ?_ ?_ ?_ ?_ ?_ ?_ ?_ ?_ ?_ ?_ ?_ ?_ ?_ ?_ ?_ ?_ ?_ ?_ ?_ ?_ ?_ <;> simp (disch := decide) [src, plS, e, Nat.testBit_or, Nat.testBit_and, Nat.testBit_shiftLeft, Nat.testBit_shiftRight, -Nat.and_one_is_mod, tbm1, tbm4, tbm5, tbm6, tbm7, tbm8, tbm10, tbm12, tbm20]
theorem selfB (w : Nat) (hw : w < 4294967296) : setB w (immB w) = w := by
  refine set_self plB _ _ _ (setB_lt _ _) hw (putB _ _) ?_
  have e : ∀ k, k < 13 → (immB w).testBit k = (((w >>> 31 <<< 12 ||| (w >>> 7 &&& 1) <<< 11) ||| (w >>> 25 &&& 63) <<< 5) ||| (w >>> 8 &&& 15) <<< 1).testBit k := fun k hk => by unfold immB; rw [sx_tb _ _ _ hk (by omega), immB_or]
  refine lt32 ?_ ?_ ?_ ?_ ?_ ?_ ?_ ?_ ?_ ?_ ?_ ?_ ?_ ?_ ?_ ?_ ?_ ?_ ?_ ?_ ?_ ?_ ?_ ?_ ?_ ?_ ?_ ?_ ?_ ?_ ?_ ?_ <;> simp (disch := decide) [src, plB, e, Nat.testBit_or, Nat.testBit_and, Nat.testBit_shiftLeft, Nat.testBit_shiftRight, -Nat.and_one_is_mod, tbm1, tbm4, tbm5, tbm6, tbm7, tbm8, tbm10, tbm12, tbm20]
theorem selfJ (w : Nat) (hw : w < 4294967296) : setJ w (immJ w) = w := by
  refine set_self plJ _ _ _ (setJ_lt _ _) hw (putJ _ _) ?_
  have e : ∀ k, k < 21 → (immJ w).testBit k = (((w >>> 31 <<< 20 ||| (w >>> 12 &&& 255) <<< 12) ||| (w >>> 20 &&& 1) <<< 11) ||| (w >>> 21 &&& 1023) <<< 1).testBit k := fun k hk => by unfold immJ; rw [sx_tb _ _ _ hk (by omega), immJ_or]
  refine lt32 ?_ ?_ ?_ ?_ ?_ ?_ ?_ ?_ ?_ ?_ ?_ ?_ ?_ ?_ ?_ ?_ ?_ ?_ ?_ ?_ ?_ ?_ ?_ ?_ ?_ ?_ ?_ ?_ ?_ ?_ ?_ ?_ <;> simp (disch := decide) [src, plJ, e, Nat.testBit_or, Nat.testBit_and, Nat.testBit_shiftLeft, Nat.testBit_shiftRight, -Nat.and_one_is_mod, tbm1, tbm4, tbm5, tbm6, tbm7, tbm8, tbm10, tbm12, tbm20]
theorem selfU (w : Nat) (hw : w < 4294967296) : setU w (immU w) = w := by
  refine set_self plU _ _ _ (setU_lt _ _ (by unfold immU; omega)) hw (putU _ _) ?_
  have e : ∀ k, (immU w).testBit k = ((w >>> 12) <<< 12).testBit k := fun k => by unfold immU; rw [Nat.shiftLeft_eq, Nat.shiftRight_eq_div_pow]
  refine lt32 ?_ ?_ ?_ ?_ ?_ ?_ ?_ ?_ ?_ ?_ ?_ ?_ ?_ ?_ ?_ ?_ ?_ ?_ ?_ ?_ ?_ ?_ ?_ ?_ ?_ ?_ ?_ ?_ ?_ ?_ ?_ ?_ <;> simp (disch := decide) [src, plU, e, Nat.testBit_or, Nat.testBit_and, Nat.testBit_shiftLeft, Nat.testBit_shiftRight, -Nat.and_one_is_mod, tbm1, tbm4, tbm5, tbm6, tbm7, tbm8, tbm10, tbm12, tbm20]
end Go.Proofs.L
