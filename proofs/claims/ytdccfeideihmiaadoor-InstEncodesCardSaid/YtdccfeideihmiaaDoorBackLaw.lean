/- Proved here: lemmas and contracts (BackLaw) for the laws of this seat, for all values of the stated types; no further condition. -/
import Derived.Test.YtdccfeideihmiaaDoorSetLaw
open Go Go.RowKit Go.Lib
set_option linter.unusedSimpArgs false
set_option linter.unusedVariables false
set_option linter.unnecessarySimpa false
namespace Go.Proofs.L
theorem tbm32 (i : Nat) : Nat.testBit 4294967295 i = decide (i < 32) := Nat.testBit_two_pow_sub_one 32 i
theorem tbm707F : ∀ i, i < 32 → Nat.testBit 28799 i = (decide (i < 7) || decide (12 ≤ i ∧ i < 15)) := by decide
theorem tbmFE : ∀ i, i < 32 → Nat.testBit 4261441663 i = (decide (i < 7) || decide (12 ≤ i ∧ i < 15) || decide (25 ≤ i)) := by decide
theorem rd_or (x : Nat) : rdN x * 128 = (x >>> 7 &&& 31) <<< 7 := by
  unfold rdN; rw [Nat.shiftLeft_eq, Nat.shiftRight_eq_div_pow, show (31 : Nat) = 2 ^ 5 - 1 from rfl, and_low]
theorem rs1_or (x : Nat) : rs1N x * 32768 = (x >>> 15 &&& 31) <<< 15 := by
  unfold rs1N; rw [Nat.shiftLeft_eq, Nat.shiftRight_eq_div_pow, show (31 : Nat) = 2 ^ 5 - 1 from rfl, and_low]
theorem rs2_or (x : Nat) : rs2N x * 1048576 = (x >>> 20 &&& 31) <<< 20 := by
  unfold rs2N; rw [Nat.shiftLeft_eq, Nat.shiftRight_eq_div_pow, show (31 : Nat) = 2 ^ 5 - 1 from rfl, and_low]
theorem sh_or (x : Nat) : x / 1048576 % 32 * 1048576 % 4294967296 = (x >>> 20 &&& 31) <<< 20 := by
  rw [Nat.shiftLeft_eq, Nat.shiftRight_eq_div_pow, show (31 : Nat) = 2 ^ 5 - 1 from rfl, and_low]; omega
theorem im_or (x : Nat) : x / 1048576 % 4096 * 1048576 % 4294967296 = (x >>> 20 &&& 4095) <<< 20 := by
  rw [Nat.shiftLeft_eq, Nat.shiftRight_eq_div_pow, show (4095 : Nat) = 2 ^ 12 - 1 from rfl, and_low]; omega
theorem iu_or (x : Nat) : immU x = (x >>> 12) <<< 12 := by
  unfold immU; rw [Nat.shiftLeft_eq, Nat.shiftRight_eq_div_pow]
theorem tb_all (S x : Nat) (hS : S < 4294967296) (hx : x < 4294967296) (h : ∀ i, i < 32 → S.testBit i = x.testBit i) : S = x := by
  apply Nat.eq_of_testBit_eq
  intro i
  by_cases hi : i < 32
  · exact h i hi
  · rw [tb_lt S i hS (by omega), tb_lt x i hx (by omega)]
theorem set_self2 (pl : Nat → Option Nat) (S a x y : Nat) (hS : S < 4294967296) (hx : x < 4294967296) (h : Put pl S a y) (hk : ∀ i, i < 32 → src a y i (pl i) = x.testBit i) : S = x :=
  tb_all S x hS hx fun i hi => by rw [h i hi, hk i hi]
theorem backI (x : Nat) (hx : x < 4294967296) : setI ((x &&& 28799) ||| rdN x * 128 ||| rs1N x * 32768) (immI x) = x := by
  simp only [rd_or, rs1_or, rs2_or]
  refine set_self2 plI _ _ _ _ (setI_lt _ _) hx (putI _ _) ?_
  have e : ∀ k, k < 12 → (immI x).testBit k = (x >>> 20).testBit k := fun k hk => by unfold immI; rw [sx_tb _ _ _ hk (by omega), Nat.shiftRight_eq_div_pow]
  refine lt32 ?_ ?_ ?_ ?_ ?_ ?_ ?_ ?_ ?_ ?_ ?_ ?_ ?_ ?_ ?_ ?_ ?_ ?_ ?_ ?_ ?_ ?_ ?_ ?_ ?_ ?_ ?_ ?_ ?_ ?_ ?_ ?_ <;> simp (disch := decide) [src, plI, e, Nat.testBit_or, Nat.testBit_and, Nat.testBit_shiftLeft, Nat.testBit_shiftRight, -Nat.and_one_is_mod, -Nat.reducePow, tb32, tbm707F, tbmFE, tbm1, tbm4, tbm5, tbm6, tbm7, tbm8, tbm10, tbm12, tbm20, tbm32]
theorem backS (x : Nat) (hx : x < 4294967296) : setS ((x &&& 28799) ||| rs1N x * 32768 ||| rs2N x * 1048576) (immS x) = x := by
  simp only [rd_or, rs1_or, rs2_or]
  refine set_self2 plS _ _ _ _ (setS_lt _ _) hx (putS _ _) ?_
  have e : ∀ k, k < 12 → (immS x).testBit k = ((x >>> 25) <<< 5 ||| (x >>> 7 &&& 31)).testBit k := fun k hk => by unfold immS; rw [sx_tb _ _ _ hk (by omega), immS_or]
  refine lt32 ?_ ?_ ?_ ?_ ?_ ?_ ?_ ?_ ?_ ?_ ?_ ?_ ?_ ?_ ?_ ?_ ?_ ?_ ?_ ?_ ?_ ?_ ?_ ?_ ?_ ?_ ?_ ?_ ?_ ?_ ?_ ?_ <;> simp (disch := decide) [src, plS, e, Nat.testBit_or, Nat.testBit_and, Nat.testBit_shiftLeft, Nat.testBit_shiftRight, -Nat.and_one_is_mod, -Nat.reducePow, tb32, tbm707F, tbmFE, tbm1, tbm4, tbm5, tbm6, tbm7, tbm8, tbm10, tbm12, tbm20, tbm32]
theorem backB (x : Nat) (hx : x < 4294967296) : setB ((x &&& 28799) ||| rs1N x * 32768 ||| rs2N x * 1048576) (immB x) = x := by
  simp only [rd_or, rs1_or, rs2_or]
  refine set_self2 plB _ _ _ _ (setB_lt _ _) hx (putB _ _) ?_
  have e : ∀ k, k < 13 → (immB x).testBit k = (((x >>> 31 <<< 12 ||| (x >>> 7 &&& 1) <<< 11) ||| (x >>> 25 &&& 63) <<< 5) ||| (x >>> 8 &&& 15) <<< 1).testBit k := fun k hk => by unfold immB; rw [sx_tb _ _ _ hk (by omega), immB_or]
  refine lt32 ?_ ?_ ?_ ?_ ?_ ?_ ?_ ?_ ?_ ?_ ?_ ?_ ?_ ?_ ?_ ?_ ?_ ?_ ?_ ?_ ?_ ?_ ?_ ?_ ?_ ?_ ?_ ?_ ?_ ?_ ?_ ?_ <;> simp (disch := decide) [src, plB, e, Nat.testBit_or, Nat.testBit_and, Nat.testBit_shiftLeft, Nat.testBit_shiftRight, -Nat.and_one_is_mod, -Nat.reducePow, tb32, tbm707F, tbmFE, tbm1, tbm4, tbm5, tbm6, tbm7, tbm8, tbm10, tbm12, tbm20, tbm32]
theorem backJ (x : Nat) (hx : x < 4294967296) : setJ ((x &&& 127) ||| rdN x * 128) (immJ x) = x := by
  simp only [rd_or, rs1_or, rs2_or]
  refine set_self2 plJ _ _ _ _ (setJ_lt _ _) hx (putJ _ _) ?_
  have e : ∀ k, k < 21 → (immJ x).testBit k = (((x >>> 31 <<< 20 ||| (x >>> 12 &&& 255) <<< 12) ||| (x >>> 20 &&& 1) <<< 11) ||| (x >>> 21 &&& 1023) <<< 1).testBit k := fun k hk => by unfold immJ; rw [sx_tb _ _ _ hk (by omega), immJ_or]
  refine lt32 ?_ ?_ ?_ ?_ ?_ ?_ ?_ ?_ ?_ ?_ ?_ ?_ ?_ ?_ ?_ ?_ ?_ ?_ ?_ ?_ ?_ ?_ ?_ ?_ ?_ ?_ ?_ ?_ ?_ ?_ ?_ ?_ <;> simp (disch := decide) [src, plJ, e, Nat.testBit_or, Nat.testBit_and, Nat.testBit_shiftLeft, Nat.testBit_shiftRight, -Nat.and_one_is_mod, -Nat.reducePow, tb32, tbm707F, tbmFE, tbm1, tbm4, tbm5, tbm6, tbm7, tbm8, tbm10, tbm12, tbm20, tbm32]
theorem backU (x : Nat) (hx : x < 4294967296) : (x &&& 127) ||| rdN x * 128 ||| immU x = x := by
  refine tb_all _ x (or_lt (or_lt (and_lt _ _ (by decide)) (by unfold rdN; omega)) (by unfold immU; omega)) hx ?_
  simp only [rd_or, iu_or]
  refine lt32 ?_ ?_ ?_ ?_ ?_ ?_ ?_ ?_ ?_ ?_ ?_ ?_ ?_ ?_ ?_ ?_ ?_ ?_ ?_ ?_ ?_ ?_ ?_ ?_ ?_ ?_ ?_ ?_ ?_ ?_ ?_ ?_ <;> simp (disch := decide) [src, Nat.testBit_or, Nat.testBit_and, Nat.testBit_shiftLeft, Nat.testBit_shiftRight, -Nat.and_one_is_mod, -Nat.reducePow, tb32, tbm707F, tbmFE, tbm1, tbm4, tbm5, tbm6, tbm7, tbm8, tbm10, tbm12, tbm20, tbm32]
theorem backR (x : Nat) (hx : x < 4294967296) : (x &&& 4261441663) ||| rdN x * 128 ||| rs1N x * 32768 ||| rs2N x * 1048576 = x := by
  refine tb_all _ x (or_lt (or_lt (or_lt (and_lt _ _ (by decide)) (by unfold rdN; omega)) (by unfold rs1N; omega)) (by unfold rs2N; omega)) hx ?_
  simp only [rd_or, rs1_or, rs2_or]
  refine lt32 ?_ ?_ ?_ ?_ ?_ ?_ ?_ ?_ ?_ ?_ ?_ ?_ ?_ ?_ ?_ ?_ ?_ ?_ ?_ ?_ ?_ ?_ ?_ ?_ ?_ ?_ ?_ ?_ ?_ ?_ ?_ ?_ <;> simp (disch := decide) [src, Nat.testBit_or, Nat.testBit_and, Nat.testBit_shiftLeft, Nat.testBit_shiftRight, -Nat.and_one_is_mod, -Nat.reducePow, tb32, tbm707F, tbmFE, tbm1, tbm4, tbm5, tbm6, tbm7, tbm8, tbm10, tbm12, tbm20, tbm32]
theorem backT (x : Nat) (hx : x < 4294967296) : (x &&& 4261441663) ||| rdN x * 128 ||| rs1N x * 32768 ||| (x / 1048576 % 32 * 1048576 % 4294967296) = x := by
  refine tb_all _ x (or_lt (or_lt (or_lt (and_lt _ _ (by decide)) (by unfold rdN; omega)) (by unfold rs1N; omega)) (by omega)) hx ?_
  simp only [rd_or, rs1_or, sh_or]
  refine lt32 ?_ ?_ ?_ ?_ ?_ ?_ ?_ ?_ ?_ ?_ ?_ ?_ ?_ ?_ ?_ ?_ ?_ ?_ ?_ ?_ ?_ ?_ ?_ ?_ ?_ ?_ ?_ ?_ ?_ ?_ ?_ ?_ <;> simp (disch := decide) [src, Nat.testBit_or, Nat.testBit_and, Nat.testBit_shiftLeft, Nat.testBit_shiftRight, -Nat.and_one_is_mod, -Nat.reducePow, tb32, tbm707F, tbmFE, tbm1, tbm4, tbm5, tbm6, tbm7, tbm8, tbm10, tbm12, tbm20, tbm32]
theorem backC (x : Nat) (hx : x < 4294967296) : (x &&& 28799) ||| rdN x * 128 ||| rs1N x * 32768 ||| (x / 1048576 % 4096 * 1048576 % 4294967296) = x := by
  refine tb_all _ x (or_lt (or_lt (or_lt (and_lt _ _ (by decide)) (by unfold rdN; omega)) (by unfold rs1N; omega)) (by omega)) hx ?_
  simp only [rd_or, rs1_or, im_or]
  refine lt32 ?_ ?_ ?_ ?_ ?_ ?_ ?_ ?_ ?_ ?_ ?_ ?_ ?_ ?_ ?_ ?_ ?_ ?_ ?_ ?_ ?_ ?_ ?_ ?_ ?_ ?_ ?_ ?_ ?_ ?_ ?_ ?_ <;> simp (disch := decide) [src, Nat.testBit_or, Nat.testBit_and, Nat.testBit_shiftLeft, Nat.testBit_shiftRight, -Nat.and_one_is_mod, -Nat.reducePow, tb32, tbm707F, tbmFE, tbm1, tbm4, tbm5, tbm6, tbm7, tbm8, tbm10, tbm12, tbm20, tbm32]
end Go.Proofs.L
