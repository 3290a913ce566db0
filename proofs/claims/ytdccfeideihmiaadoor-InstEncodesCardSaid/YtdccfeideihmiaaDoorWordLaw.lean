/- Proved here: lemmas and contracts (WordLaw) for the laws of this seat, for all values of the stated types; no further condition. -/
import Derived.Test.YtdccfeideihmiaaDoorBackLaw
import Derived.Test.YtdccfeideihmiaaDoorDecLaw
open Go Go.RowKit Go.Lib
set_option linter.unusedSimpArgs false
set_option linter.unusedVariables false
set_option linter.unnecessarySimpa false
namespace Go.Proofs.L
theorem tbm13 (i : Nat) : Nat.testBit 8191 i = decide (i < 13) := Nat.testBit_two_pow_sub_one 13 i
theorem tbm21 (i : Nat) : Nat.testBit 2097151 i = decide (i < 21) := Nat.testBit_two_pow_sub_one 21 i
theorem tbm8190 : ∀ i, i < 32 → Nat.testBit 8190 i = (decide (1 ≤ i) && decide (i < 13)) := by decide
theorem sx_mod (n y z : Nat) (h : y % 2 ^ n = z % 2 ^ n) : sx n y = sx n z := by unfold sx; rw [h]
theorem and_mod (x n m : Nat) (hm : m = 2 ^ n - 1) : x % 2 ^ n = x &&& m := by rw [hm, and_low]
theorem rdN_b (x : Nat) : rdN x = x >>> 7 &&& 31 := by
  unfold rdN; rw [Nat.shiftRight_eq_div_pow, show (31 : Nat) = 2 ^ 5 - 1 from rfl, and_low]
theorem rs1N_b (x : Nat) : rs1N x = x >>> 15 &&& 31 := by
  unfold rs1N; rw [Nat.shiftRight_eq_div_pow, show (31 : Nat) = 2 ^ 5 - 1 from rfl, and_low]
theorem rs2N_b (x : Nat) : rs2N x = x >>> 20 &&& 31 := by
  unfold rs2N; rw [Nat.shiftRight_eq_div_pow, show (31 : Nat) = 2 ^ 5 - 1 from rfl, and_low]
theorem low31 (x : Nat) (h : x < 32) : x &&& 31 = x := by rw [show (31 : Nat) = 2 ^ 5 - 1 from rfl, and_low]; omega
theorem s7 (x : Nat) : x * 128 = x <<< 7 := by rw [Nat.shiftLeft_eq]
theorem s15 (x : Nat) : x * 32768 = x <<< 15 := by rw [Nat.shiftLeft_eq]
theorem s20 (x : Nat) : x * 1048576 = x <<< 20 := by rw [Nat.shiftLeft_eq]
theorem and31_lt (x : Nat) : x &&& 31 < 4294967296 := and_lt _ _ (by decide)
theorem sh31_lt (a n : Nat) (hn : n ≤ 20) : (a &&& 31) <<< n < 4294967296 := by
  rw [Nat.shiftLeft_eq]
  have h1 : a &&& 31 ≤ 31 := Nat.and_le_right
  have h2 : 2 ^ n ≤ 2 ^ 20 := Nat.pow_le_pow_right (by decide) hn
  have h3 : (a &&& 31) * 2 ^ n ≤ 31 * 2 ^ 20 := Nat.mul_le_mul h1 h2
  omega
theorem bit_I (c a b y : Nat) (w : Nat) (h : w = setI (((c &&& 28799) ||| (a &&& 31) <<< 7) ||| (b &&& 31) <<< 15) y) : ∀ i, i < 32 → w.testBit i = src (((c &&& 28799) ||| (a &&& 31) <<< 7) ||| (b &&& 31) <<< 15) y i (plI i) := by subst h; exact putI _ _
theorem lt_I (c a b y : Nat) : setI (((c &&& 28799) ||| (a &&& 31) <<< 7) ||| (b &&& 31) <<< 15) y < 4294967296 := (setI_lt _ _)
theorem msk_I (c a b y w : Nat) (h : w = setI (((c &&& 28799) ||| (a &&& 31) <<< 7) ||| (b &&& 31) <<< 15) y) : w &&& 28799 = c &&& 28799 := by
  have hb := bit_I c a b y w h
  refine tb_all _ _ (and_lt _ _ (by decide)) (and_lt _ _ (by decide)) ?_
  refine lt32 ?_ ?_ ?_ ?_ ?_ ?_ ?_ ?_ ?_ ?_ ?_ ?_ ?_ ?_ ?_ ?_ ?_ ?_ ?_ ?_ ?_ ?_ ?_ ?_ ?_ ?_ ?_ ?_ ?_ ?_ ?_ ?_ <;> simp (disch := decide) [src, hb, plI, Nat.testBit_or, Nat.testBit_and, Nat.testBit_shiftLeft, Nat.testBit_shiftRight, -Nat.and_one_is_mod, -Nat.reducePow, -Nat.testBit_zero, tb32, tbmS, tbm707F, tbmFE, tbm1, tbm4, tbm5, tbm6, tbm7, tbm8, tbm10, tbm12, tbm20, tbm32, tbm8190, tbm13, tbm21]
theorem rdN_I (c a b y w : Nat) (h : w = setI (((c &&& 28799) ||| (a &&& 31) <<< 7) ||| (b &&& 31) <<< 15) y) : w >>> 7 &&& 31 = a &&& 31 := by
  have hb := bit_I c a b y w h
  refine tb_all _ _ (and_lt _ _ (by decide)) (and_lt _ _ (by decide)) ?_
  refine lt32 ?_ ?_ ?_ ?_ ?_ ?_ ?_ ?_ ?_ ?_ ?_ ?_ ?_ ?_ ?_ ?_ ?_ ?_ ?_ ?_ ?_ ?_ ?_ ?_ ?_ ?_ ?_ ?_ ?_ ?_ ?_ ?_ <;> simp (disch := decide) [src, hb, plI, Nat.testBit_or, Nat.testBit_and, Nat.testBit_shiftLeft, Nat.testBit_shiftRight, -Nat.and_one_is_mod, -Nat.reducePow, -Nat.testBit_zero, tb32, tbmS, tbm707F, tbmFE, tbm1, tbm4, tbm5, tbm6, tbm7, tbm8, tbm10, tbm12, tbm20, tbm32, tbm8190, tbm13, tbm21]
theorem rs1N_I (c a b y w : Nat) (h : w = setI (((c &&& 28799) ||| (a &&& 31) <<< 7) ||| (b &&& 31) <<< 15) y) : w >>> 15 &&& 31 = b &&& 31 := by
  have hb := bit_I c a b y w h
  refine tb_all _ _ (and_lt _ _ (by decide)) (and_lt _ _ (by decide)) ?_
  refine lt32 ?_ ?_ ?_ ?_ ?_ ?_ ?_ ?_ ?_ ?_ ?_ ?_ ?_ ?_ ?_ ?_ ?_ ?_ ?_ ?_ ?_ ?_ ?_ ?_ ?_ ?_ ?_ ?_ ?_ ?_ ?_ ?_ <;> simp (disch := decide) [src, hb, plI, Nat.testBit_or, Nat.testBit_and, Nat.testBit_shiftLeft, Nat.testBit_shiftRight, -Nat.and_one_is_mod, -Nat.reducePow, -Nat.testBit_zero, tb32, tbmS, tbm707F, tbmFE, tbm1, tbm4, tbm5, tbm6, tbm7, tbm8, tbm10, tbm12, tbm20, tbm32, tbm8190, tbm13, tbm21]
theorem im_I (c a b y w : Nat) (h : w = setI (((c &&& 28799) ||| (a &&& 31) <<< 7) ||| (b &&& 31) <<< 15) y) : (w >>> 20) &&& 4095 = y &&& 4095 := by
  have hb := bit_I c a b y w h
  refine tb_all _ _ (and_lt _ _ (by decide)) (and_lt _ _ (by decide)) ?_
  refine lt32 ?_ ?_ ?_ ?_ ?_ ?_ ?_ ?_ ?_ ?_ ?_ ?_ ?_ ?_ ?_ ?_ ?_ ?_ ?_ ?_ ?_ ?_ ?_ ?_ ?_ ?_ ?_ ?_ ?_ ?_ ?_ ?_ <;> simp (disch := decide) [src, hb, plI, Nat.testBit_or, Nat.testBit_and, Nat.testBit_shiftLeft, Nat.testBit_shiftRight, -Nat.and_one_is_mod, -Nat.reducePow, -Nat.testBit_zero, tb32, tbmS, tbm707F, tbmFE, tbm1, tbm4, tbm5, tbm6, tbm7, tbm8, tbm10, tbm12, tbm20, tbm32, tbm8190, tbm13, tbm21]
theorem bit_S (c b d y : Nat) (w : Nat) (h : w = setS (((c &&& 28799) ||| (b &&& 31) <<< 15) ||| (d &&& 31) <<< 20) y) : ∀ i, i < 32 → w.testBit i = src (((c &&& 28799) ||| (b &&& 31) <<< 15) ||| (d &&& 31) <<< 20) y i (plS i) := by subst h; exact putS _ _
theorem lt_S (c b d y : Nat) : setS (((c &&& 28799) ||| (b &&& 31) <<< 15) ||| (d &&& 31) <<< 20) y < 4294967296 := (setS_lt _ _)
theorem msk_S (c b d y w : Nat) (h : w = setS (((c &&& 28799) ||| (b &&& 31) <<< 15) ||| (d &&& 31) <<< 20) y) : w &&& 28799 = c &&& 28799 := by
  have hb := bit_S c b d y w h
  refine tb_all _ _ (and_lt _ _ (by decide)) (and_lt _ _ (by decide)) ?_
  refine lt32 ?_ ?_ ?_ ?_ ?_ ?_ ?_ ?_ ?_ ?_ ?_ ?_ ?_ ?_ ?_ ?_ ?_ ?_ ?_ ?_ ?_ ?_ ?_ ?_ ?_ ?_ ?_ ?_ ?_ ?_ ?_ ?_ <;> simp (disch := decide) [src, hb, plS, Nat.testBit_or, Nat.testBit_and, Nat.testBit_shiftLeft, Nat.testBit_shiftRight, -Nat.and_one_is_mod, -Nat.reducePow, -Nat.testBit_zero, tb32, tbmS, tbm707F, tbmFE, tbm1, tbm4, tbm5, tbm6, tbm7, tbm8, tbm10, tbm12, tbm20, tbm32, tbm8190, tbm13, tbm21]
theorem rs1N_S (c b d y w : Nat) (h : w = setS (((c &&& 28799) ||| (b &&& 31) <<< 15) ||| (d &&& 31) <<< 20) y) : w >>> 15 &&& 31 = b &&& 31 := by
  have hb := bit_S c b d y w h
  refine tb_all _ _ (and_lt _ _ (by decide)) (and_lt _ _ (by decide)) ?_
  refine lt32 ?_ ?_ ?_ ?_ ?_ ?_ ?_ ?_ ?_ ?_ ?_ ?_ ?_ ?_ ?_ ?_ ?_ ?_ ?_ ?_ ?_ ?_ ?_ ?_ ?_ ?_ ?_ ?_ ?_ ?_ ?_ ?_ <;> simp (disch := decide) [src, hb, plS, Nat.testBit_or, Nat.testBit_and, Nat.testBit_shiftLeft, Nat.testBit_shiftRight, -Nat.and_one_is_mod, -Nat.reducePow, -Nat.testBit_zero, tb32, tbmS, tbm707F, tbmFE, tbm1, tbm4, tbm5, tbm6, tbm7, tbm8, tbm10, tbm12, tbm20, tbm32, tbm8190, tbm13, tbm21]
theorem rs2N_S (c b d y w : Nat) (h : w = setS (((c &&& 28799) ||| (b &&& 31) <<< 15) ||| (d &&& 31) <<< 20) y) : w >>> 20 &&& 31 = d &&& 31 := by
  have hb := bit_S c b d y w h
  refine tb_all _ _ (and_lt _ _ (by decide)) (and_lt _ _ (by decide)) ?_
  refine lt32 ?_ ?_ ?_ ?_ ?_ ?_ ?_ ?_ ?_ ?_ ?_ ?_ ?_ ?_ ?_ ?_ ?_ ?_ ?_ ?_ ?_ ?_ ?_ ?_ ?_ ?_ ?_ ?_ ?_ ?_ ?_ ?_ <;> simp (disch := decide) [src, hb, plS, Nat.testBit_or, Nat.testBit_and, Nat.testBit_shiftLeft, Nat.testBit_shiftRight, -Nat.and_one_is_mod, -Nat.reducePow, -Nat.testBit_zero, tb32, tbmS, tbm707F, tbmFE, tbm1, tbm4, tbm5, tbm6, tbm7, tbm8, tbm10, tbm12, tbm20, tbm32, tbm8190, tbm13, tbm21]
theorem im_S (c b d y w : Nat) (h : w = setS (((c &&& 28799) ||| (b &&& 31) <<< 15) ||| (d &&& 31) <<< 20) y) : ((w >>> 25) <<< 5 ||| (w >>> 7 &&& 31)) &&& 4095 = y &&& 4095 := by
  have hb := bit_S c b d y w h
  refine tb_all _ _ (and_lt _ _ (by decide)) (and_lt _ _ (by decide)) ?_
  refine lt32 ?_ ?_ ?_ ?_ ?_ ?_ ?_ ?_ ?_ ?_ ?_ ?_ ?_ ?_ ?_ ?_ ?_ ?_ ?_ ?_ ?_ ?_ ?_ ?_ ?_ ?_ ?_ ?_ ?_ ?_ ?_ ?_ <;> simp (disch := decide) [src, hb, plS, Nat.testBit_or, Nat.testBit_and, Nat.testBit_shiftLeft, Nat.testBit_shiftRight, -Nat.and_one_is_mod, -Nat.reducePow, -Nat.testBit_zero, tb32, tbmS, tbm707F, tbmFE, tbm1, tbm4, tbm5, tbm6, tbm7, tbm8, tbm10, tbm12, tbm20, tbm32, tbm8190, tbm13, tbm21]
theorem bit_B (c b d y : Nat) (w : Nat) (h : w = setB (((c &&& 28799) ||| (b &&& 31) <<< 15) ||| (d &&& 31) <<< 20) y) : ∀ i, i < 32 → w.testBit i = src (((c &&& 28799) ||| (b &&& 31) <<< 15) ||| (d &&& 31) <<< 20) y i (plB i) := by subst h; exact putB _ _
theorem lt_B (c b d y : Nat) : setB (((c &&& 28799) ||| (b &&& 31) <<< 15) ||| (d &&& 31) <<< 20) y < 4294967296 := (setB_lt _ _)
theorem msk_B (c b d y w : Nat) (h : w = setB (((c &&& 28799) ||| (b &&& 31) <<< 15) ||| (d &&& 31) <<< 20) y) : w &&& 28799 = c &&& 28799 := by
  have hb := bit_B c b d y w h
  refine tb_all _ _ (and_lt _ _ (by decide)) (and_lt _ _ (by decide)) ?_
  refine lt32 ?_ ?_ ?_ ?_ ?_ ?_ ?_ ?_ ?_ ?_ ?_ ?_ ?_ ?_ ?_ ?_ ?_ ?_ ?_ ?_ ?_ ?_ ?_ ?_ ?_ ?_ ?_ ?_ ?_ ?_ ?_ ?_ <;> simp (disch := decide) [src, hb, plB, Nat.testBit_or, Nat.testBit_and, Nat.testBit_shiftLeft, Nat.testBit_shiftRight, -Nat.and_one_is_mod, -Nat.reducePow, -Nat.testBit_zero, tb32, tbmS, tbm707F, tbmFE, tbm1, tbm4, tbm5, tbm6, tbm7, tbm8, tbm10, tbm12, tbm20, tbm32, tbm8190, tbm13, tbm21]
theorem rs1N_B (c b d y w : Nat) (h : w = setB (((c &&& 28799) ||| (b &&& 31) <<< 15) ||| (d &&& 31) <<< 20) y) : w >>> 15 &&& 31 = b &&& 31 := by
  have hb := bit_B c b d y w h
  refine tb_all _ _ (and_lt _ _ (by decide)) (and_lt _ _ (by decide)) ?_
  refine lt32 ?_ ?_ ?_ ?_ ?_ ?_ ?_ ?_ ?_ ?_ ?_ ?_ ?_ ?_ ?_ ?_ ?_ ?_ ?_ ?_ ?_ ?_ ?_ ?_ ?_ ?_ ?_ ?_ ?_ ?_ ?_ ?_ <;> simp (disch := decide) [src, hb, plB, Nat.testBit_or, Nat.testBit_and, Nat.testBit_shiftLeft, Nat.testBit_shiftRight, -Nat.and_one_is_mod, -Nat.reducePow, -Nat.testBit_zero, tb32, tbmS, tbm707F, tbmFE, tbm1, tbm4, tbm5, tbm6, tbm7, tbm8, tbm10, tbm12, tbm20, tbm32, tbm8190, tbm13, tbm21]
theorem rs2N_B (c b d y w : Nat) (h : w = setB (((c &&& 28799) ||| (b &&& 31) <<< 15) ||| (d &&& 31) <<< 20) y) : w >>> 20 &&& 31 = d &&& 31 := by
  have hb := bit_B c b d y w h
  refine tb_all _ _ (and_lt _ _ (by decide)) (and_lt _ _ (by decide)) ?_
  refine lt32 ?_ ?_ ?_ ?_ ?_ ?_ ?_ ?_ ?_ ?_ ?_ ?_ ?_ ?_ ?_ ?_ ?_ ?_ ?_ ?_ ?_ ?_ ?_ ?_ ?_ ?_ ?_ ?_ ?_ ?_ ?_ ?_ <;> simp (disch := decide) [src, hb, plB, Nat.testBit_or, Nat.testBit_and, Nat.testBit_shiftLeft, Nat.testBit_shiftRight, -Nat.and_one_is_mod, -Nat.reducePow, -Nat.testBit_zero, tb32, tbmS, tbm707F, tbmFE, tbm1, tbm4, tbm5, tbm6, tbm7, tbm8, tbm10, tbm12, tbm20, tbm32, tbm8190, tbm13, tbm21]
theorem im_B (c b d y w : Nat) (h : w = setB (((c &&& 28799) ||| (b &&& 31) <<< 15) ||| (d &&& 31) <<< 20) y) : (((w >>> 31 <<< 12 ||| (w >>> 7 &&& 1) <<< 11) ||| (w >>> 25 &&& 63) <<< 5) ||| (w >>> 8 &&& 15) <<< 1) &&& 8191 = (y >>> 1) <<< 1 &&& 8191 := by
  have hb := bit_B c b d y w h
  refine tb_all _ _ (and_lt _ _ (by decide)) (and_lt _ _ (by decide)) ?_
  refine lt32 ?_ ?_ ?_ ?_ ?_ ?_ ?_ ?_ ?_ ?_ ?_ ?_ ?_ ?_ ?_ ?_ ?_ ?_ ?_ ?_ ?_ ?_ ?_ ?_ ?_ ?_ ?_ ?_ ?_ ?_ ?_ ?_ <;> simp (disch := decide) [src, hb, plB, Nat.testBit_or, Nat.testBit_and, Nat.testBit_shiftLeft, Nat.testBit_shiftRight, -Nat.and_one_is_mod, -Nat.reducePow, -Nat.testBit_zero, tb32, tbmS, tbm707F, tbmFE, tbm1, tbm4, tbm5, tbm6, tbm7, tbm8, tbm10, tbm12, tbm20, tbm32, tbm8190, tbm13, tbm21]
theorem bit_J (c a y : Nat) (w : Nat) (h : w = setJ ((c &&& 127) ||| (a &&& 31) <<< 7) y) : ∀ i, i < 32 → w.testBit i = src ((c &&& 127) ||| (a &&& 31) <<< 7) y i (plJ i) := by subst h; exact putJ _ _
theorem lt_J (c a y : Nat) : setJ ((c &&& 127) ||| (a &&& 31) <<< 7) y < 4294967296 := (setJ_lt _ _)
theorem msk_J (c a y w : Nat) (h : w = setJ ((c &&& 127) ||| (a &&& 31) <<< 7) y) : w &&& 127 = c &&& 127 := by
  have hb := bit_J c a y w h
  refine tb_all _ _ (and_lt _ _ (by decide)) (and_lt _ _ (by decide)) ?_
  refine lt32 ?_ ?_ ?_ ?_ ?_ ?_ ?_ ?_ ?_ ?_ ?_ ?_ ?_ ?_ ?_ ?_ ?_ ?_ ?_ ?_ ?_ ?_ ?_ ?_ ?_ ?_ ?_ ?_ ?_ ?_ ?_ ?_ <;> simp (disch := decide) [src, hb, plJ, Nat.testBit_or, Nat.testBit_and, Nat.testBit_shiftLeft, Nat.testBit_shiftRight, -Nat.and_one_is_mod, -Nat.reducePow, -Nat.testBit_zero, tb32, tbmS, tbm707F, tbmFE, tbm1, tbm4, tbm5, tbm6, tbm7, tbm8, tbm10, tbm12, tbm20, tbm32, tbm8190, tbm13, tbm21]
theorem rdN_J (c a y w : Nat) (h : w = setJ ((c &&& 127) ||| (a &&& 31) <<< 7) y) : w >>> 7 &&& 31 = a &&& 31 := by
  have hb := bit_J c a y w h
  refine tb_all _ _ (and_lt _ _ (by decide)) (and_lt _ _ (by decide)) ?_
  refine lt32 ?_ ?_ ?_ ?_ ?_ ?_ ?_ ?_ ?_ ?_ ?_ ?_ ?_ ?_ ?_ ?_ ?_ ?_ ?_ ?_ ?_ ?_ ?_ ?_ ?_ ?_ ?_ ?_ ?_ ?_ ?_ ?_ <;> simp (disch := decide) [src, hb, plJ, Nat.testBit_or, Nat.testBit_and, Nat.testBit_shiftLeft, Nat.testBit_shiftRight, -Nat.and_one_is_mod, -Nat.reducePow, -Nat.testBit_zero, tb32, tbmS, tbm707F, tbmFE, tbm1, tbm4, tbm5, tbm6, tbm7, tbm8, tbm10, tbm12, tbm20, tbm32, tbm8190, tbm13, tbm21]
theorem im_J (c a y w : Nat) (h : w = setJ ((c &&& 127) ||| (a &&& 31) <<< 7) y) : (((w >>> 31 <<< 20 ||| (w >>> 12 &&& 255) <<< 12) ||| (w >>> 20 &&& 1) <<< 11) ||| (w >>> 21 &&& 1023) <<< 1) &&& 2097151 = (y >>> 1) <<< 1 &&& 2097151 := by
  have hb := bit_J c a y w h
  refine tb_all _ _ (and_lt _ _ (by decide)) (and_lt _ _ (by decide)) ?_
  refine lt32 ?_ ?_ ?_ ?_ ?_ ?_ ?_ ?_ ?_ ?_ ?_ ?_ ?_ ?_ ?_ ?_ ?_ ?_ ?_ ?_ ?_ ?_ ?_ ?_ ?_ ?_ ?_ ?_ ?_ ?_ ?_ ?_ <;> simp (disch := decide) [src, hb, plJ, Nat.testBit_or, Nat.testBit_and, Nat.testBit_shiftLeft, Nat.testBit_shiftRight, -Nat.and_one_is_mod, -Nat.reducePow, -Nat.testBit_zero, tb32, tbmS, tbm707F, tbmFE, tbm1, tbm4, tbm5, tbm6, tbm7, tbm8, tbm10, tbm12, tbm20, tbm32, tbm8190, tbm13, tbm21]
theorem lt_U (c a y : Nat) (hy : y < 4294967296) : (((c &&& 127) ||| (a &&& 31) <<< 7) ||| (y >>> 12) <<< 12) < 4294967296 := (or_lt (or_lt (and_lt _ _ (by decide)) (sh31_lt _ 7 (by decide))) (up_lt y hy))
theorem msk_U (c a y w : Nat) (hy : y < 4294967296) (h : w = (((c &&& 127) ||| (a &&& 31) <<< 7) ||| (y >>> 12) <<< 12)) : w &&& 127 = c &&& 127 := by
  subst h
  refine tb_all _ _ (and_lt _ _ (by decide)) (and_lt _ _ (by decide)) ?_
  refine lt32 ?_ ?_ ?_ ?_ ?_ ?_ ?_ ?_ ?_ ?_ ?_ ?_ ?_ ?_ ?_ ?_ ?_ ?_ ?_ ?_ ?_ ?_ ?_ ?_ ?_ ?_ ?_ ?_ ?_ ?_ ?_ ?_ <;> simp (disch := decide) [src, Nat.testBit_or, Nat.testBit_and, Nat.testBit_shiftLeft, Nat.testBit_shiftRight, -Nat.and_one_is_mod, -Nat.reducePow, -Nat.testBit_zero, tb32, tbmS, tbm707F, tbmFE, tbm1, tbm4, tbm5, tbm6, tbm7, tbm8, tbm10, tbm12, tbm20, tbm32, tbm8190, tbm13, tbm21]
theorem rdN_U (c a y w : Nat) (hy : y < 4294967296) (h : w = (((c &&& 127) ||| (a &&& 31) <<< 7) ||| (y >>> 12) <<< 12)) : w >>> 7 &&& 31 = a &&& 31 := by
  subst h
  refine tb_all _ _ (and_lt _ _ (by decide)) (and_lt _ _ (by decide)) ?_
  refine lt32 ?_ ?_ ?_ ?_ ?_ ?_ ?_ ?_ ?_ ?_ ?_ ?_ ?_ ?_ ?_ ?_ ?_ ?_ ?_ ?_ ?_ ?_ ?_ ?_ ?_ ?_ ?_ ?_ ?_ ?_ ?_ ?_ <;> simp (disch := decide) [src, Nat.testBit_or, Nat.testBit_and, Nat.testBit_shiftLeft, Nat.testBit_shiftRight, -Nat.and_one_is_mod, -Nat.reducePow, -Nat.testBit_zero, tb32, tbmS, tbm707F, tbmFE, tbm1, tbm4, tbm5, tbm6, tbm7, tbm8, tbm10, tbm12, tbm20, tbm32, tbm8190, tbm13, tbm21]
theorem im_U (c a y w : Nat) (hy : y < 4294967296) (h : w = (((c &&& 127) ||| (a &&& 31) <<< 7) ||| (y >>> 12) <<< 12)) : (w >>> 12) <<< 12 = (y >>> 12) <<< 12 := by
  refine tb_all _ _ (up_lt _ (by rw [h]; exact lt_U c a y hy)) (up_lt _ hy) ?_
  subst h
  refine lt32 ?_ ?_ ?_ ?_ ?_ ?_ ?_ ?_ ?_ ?_ ?_ ?_ ?_ ?_ ?_ ?_ ?_ ?_ ?_ ?_ ?_ ?_ ?_ ?_ ?_ ?_ ?_ ?_ ?_ ?_ ?_ ?_ <;> simp (disch := decide) [src, Nat.testBit_or, Nat.testBit_and, Nat.testBit_shiftLeft, Nat.testBit_shiftRight, -Nat.and_one_is_mod, -Nat.reducePow, -Nat.testBit_zero, tb32, tbmS, tbm707F, tbmFE, tbm1, tbm4, tbm5, tbm6, tbm7, tbm8, tbm10, tbm12, tbm20, tbm32, tbm8190, tbm13, tbm21]
theorem lt_R (c a b d : Nat) : ((((c &&& 4261441663) ||| (a &&& 31) <<< 7) ||| (b &&& 31) <<< 15) ||| (d &&& 31) <<< 20) < 4294967296 := (or_lt (or_lt (or_lt (and_lt _ _ (by decide)) (sh31_lt _ 7 (by decide))) (sh31_lt _ 15 (by decide))) (sh31_lt _ 20 (by decide)))
theorem msk_R (c a b d w : Nat) (h : w = ((((c &&& 4261441663) ||| (a &&& 31) <<< 7) ||| (b &&& 31) <<< 15) ||| (d &&& 31) <<< 20)) : w &&& 4261441663 = c &&& 4261441663 := by
  subst h
  refine tb_all _ _ (and_lt _ _ (by decide)) (and_lt _ _ (by decide)) ?_
  refine lt32 ?_ ?_ ?_ ?_ ?_ ?_ ?_ ?_ ?_ ?_ ?_ ?_ ?_ ?_ ?_ ?_ ?_ ?_ ?_ ?_ ?_ ?_ ?_ ?_ ?_ ?_ ?_ ?_ ?_ ?_ ?_ ?_ <;> simp (disch := decide) [src, Nat.testBit_or, Nat.testBit_and, Nat.testBit_shiftLeft, Nat.testBit_shiftRight, -Nat.and_one_is_mod, -Nat.reducePow, -Nat.testBit_zero, tb32, tbmS, tbm707F, tbmFE, tbm1, tbm4, tbm5, tbm6, tbm7, tbm8, tbm10, tbm12, tbm20, tbm32, tbm8190, tbm13, tbm21]
theorem rdN_R (c a b d w : Nat) (h : w = ((((c &&& 4261441663) ||| (a &&& 31) <<< 7) ||| (b &&& 31) <<< 15) ||| (d &&& 31) <<< 20)) : w >>> 7 &&& 31 = a &&& 31 := by
  subst h
  refine tb_all _ _ (and_lt _ _ (by decide)) (and_lt _ _ (by decide)) ?_
  refine lt32 ?_ ?_ ?_ ?_ ?_ ?_ ?_ ?_ ?_ ?_ ?_ ?_ ?_ ?_ ?_ ?_ ?_ ?_ ?_ ?_ ?_ ?_ ?_ ?_ ?_ ?_ ?_ ?_ ?_ ?_ ?_ ?_ <;> simp (disch := decide) [src, Nat.testBit_or, Nat.testBit_and, Nat.testBit_shiftLeft, Nat.testBit_shiftRight, -Nat.and_one_is_mod, -Nat.reducePow, -Nat.testBit_zero, tb32, tbmS, tbm707F, tbmFE, tbm1, tbm4, tbm5, tbm6, tbm7, tbm8, tbm10, tbm12, tbm20, tbm32, tbm8190, tbm13, tbm21]
theorem rs1N_R (c a b d w : Nat) (h : w = ((((c &&& 4261441663) ||| (a &&& 31) <<< 7) ||| (b &&& 31) <<< 15) ||| (d &&& 31) <<< 20)) : w >>> 15 &&& 31 = b &&& 31 := by
  subst h
  refine tb_all _ _ (and_lt _ _ (by decide)) (and_lt _ _ (by decide)) ?_
  refine lt32 ?_ ?_ ?_ ?_ ?_ ?_ ?_ ?_ ?_ ?_ ?_ ?_ ?_ ?_ ?_ ?_ ?_ ?_ ?_ ?_ ?_ ?_ ?_ ?_ ?_ ?_ ?_ ?_ ?_ ?_ ?_ ?_ <;> simp (disch := decide) [src, Nat.testBit_or, Nat.testBit_and, Nat.testBit_shiftLeft, Nat.testBit_shiftRight, -Nat.and_one_is_mod, -Nat.reducePow, -Nat.testBit_zero, tb32, tbmS, tbm707F, tbmFE, tbm1, tbm4, tbm5, tbm6, tbm7, tbm8, tbm10, tbm12, tbm20, tbm32, tbm8190, tbm13, tbm21]
theorem rs2N_R (c a b d w : Nat) (h : w = ((((c &&& 4261441663) ||| (a &&& 31) <<< 7) ||| (b &&& 31) <<< 15) ||| (d &&& 31) <<< 20)) : w >>> 20 &&& 31 = d &&& 31 := by
  subst h
  refine tb_all _ _ (and_lt _ _ (by decide)) (and_lt _ _ (by decide)) ?_
  refine lt32 ?_ ?_ ?_ ?_ ?_ ?_ ?_ ?_ ?_ ?_ ?_ ?_ ?_ ?_ ?_ ?_ ?_ ?_ ?_ ?_ ?_ ?_ ?_ ?_ ?_ ?_ ?_ ?_ ?_ ?_ ?_ ?_ <;> simp (disch := decide) [src, Nat.testBit_or, Nat.testBit_and, Nat.testBit_shiftLeft, Nat.testBit_shiftRight, -Nat.and_one_is_mod, -Nat.reducePow, -Nat.testBit_zero, tb32, tbmS, tbm707F, tbmFE, tbm1, tbm4, tbm5, tbm6, tbm7, tbm8, tbm10, tbm12, tbm20, tbm32, tbm8190, tbm13, tbm21]
theorem lt_T (c a b y : Nat) : ((((c &&& 4261441663) ||| (a &&& 31) <<< 7) ||| (b &&& 31) <<< 15) ||| (y &&& 31) <<< 20) < 4294967296 := (or_lt (or_lt (or_lt (and_lt _ _ (by decide)) (sh31_lt _ 7 (by decide))) (sh31_lt _ 15 (by decide))) (sh31_lt _ 20 (by decide)))
theorem msk_T (c a b y w : Nat) (h : w = ((((c &&& 4261441663) ||| (a &&& 31) <<< 7) ||| (b &&& 31) <<< 15) ||| (y &&& 31) <<< 20)) : w &&& 4261441663 = c &&& 4261441663 := by
  subst h
  refine tb_all _ _ (and_lt _ _ (by decide)) (and_lt _ _ (by decide)) ?_
  refine lt32 ?_ ?_ ?_ ?_ ?_ ?_ ?_ ?_ ?_ ?_ ?_ ?_ ?_ ?_ ?_ ?_ ?_ ?_ ?_ ?_ ?_ ?_ ?_ ?_ ?_ ?_ ?_ ?_ ?_ ?_ ?_ ?_ <;> simp (disch := decide) [src, Nat.testBit_or, Nat.testBit_and, Nat.testBit_shiftLeft, Nat.testBit_shiftRight, -Nat.and_one_is_mod, -Nat.reducePow, -Nat.testBit_zero, tb32, tbmS, tbm707F, tbmFE, tbm1, tbm4, tbm5, tbm6, tbm7, tbm8, tbm10, tbm12, tbm20, tbm32, tbm8190, tbm13, tbm21]
theorem rdN_T (c a b y w : Nat) (h : w = ((((c &&& 4261441663) ||| (a &&& 31) <<< 7) ||| (b &&& 31) <<< 15) ||| (y &&& 31) <<< 20)) : w >>> 7 &&& 31 = a &&& 31 := by
  subst h
  refine tb_all _ _ (and_lt _ _ (by decide)) (and_lt _ _ (by decide)) ?_
  refine lt32 ?_ ?_ ?_ ?_ ?_ ?_ ?_ ?_ ?_ ?_ ?_ ?_ ?_ ?_ ?_ ?_ ?_ ?_ ?_ ?_ ?_ ?_ ?_ ?_ ?_ ?_ ?_ ?_ ?_ ?_ ?_ ?_ <;> simp (disch := decide) [src, Nat.testBit_or, Nat.testBit_and, Nat.testBit_shiftLeft, Nat.testBit_shiftRight, -Nat.and_one_is_mod, -Nat.reducePow, -Nat.testBit_zero, tb32, tbmS, tbm707F, tbmFE, tbm1, tbm4, tbm5, tbm6, tbm7, tbm8, tbm10, tbm12, tbm20, tbm32, tbm8190, tbm13, tbm21]
theorem rs1N_T (c a b y w : Nat) (h : w = ((((c &&& 4261441663) ||| (a &&& 31) <<< 7) ||| (b &&& 31) <<< 15) ||| (y &&& 31) <<< 20)) : w >>> 15 &&& 31 = b &&& 31 := by
  subst h
  refine tb_all _ _ (and_lt _ _ (by decide)) (and_lt _ _ (by decide)) ?_
  refine lt32 ?_ ?_ ?_ ?_ ?_ ?_ ?_ ?_ ?_ ?_ ?_ ?_ ?_ ?_ ?_ ?_ ?_ ?_ ?_ ?_ ?_ ?_ ?_ ?_ ?_ ?_ ?_ ?_ ?_ ?_ ?_ ?_ <;> simp (disch := decide) [src, Nat.testBit_or, Nat.testBit_and, Nat.testBit_shiftLeft, Nat.testBit_shiftRight, -Nat.and_one_is_mod, -Nat.reducePow, -Nat.testBit_zero, tb32, tbmS, tbm707F, tbmFE, tbm1, tbm4, tbm5, tbm6, tbm7, tbm8, tbm10, tbm12, tbm20, tbm32, tbm8190, tbm13, tbm21]
theorem im_T (c a b y w : Nat) (h : w = ((((c &&& 4261441663) ||| (a &&& 31) <<< 7) ||| (b &&& 31) <<< 15) ||| (y &&& 31) <<< 20)) : w >>> 20 &&& 31 = y &&& 31 := by
  subst h
  refine tb_all _ _ (and_lt _ _ (by decide)) (and_lt _ _ (by decide)) ?_
  refine lt32 ?_ ?_ ?_ ?_ ?_ ?_ ?_ ?_ ?_ ?_ ?_ ?_ ?_ ?_ ?_ ?_ ?_ ?_ ?_ ?_ ?_ ?_ ?_ ?_ ?_ ?_ ?_ ?_ ?_ ?_ ?_ ?_ <;> simp (disch := decide) [src, Nat.testBit_or, Nat.testBit_and, Nat.testBit_shiftLeft, Nat.testBit_shiftRight, -Nat.and_one_is_mod, -Nat.reducePow, -Nat.testBit_zero, tb32, tbmS, tbm707F, tbmFE, tbm1, tbm4, tbm5, tbm6, tbm7, tbm8, tbm10, tbm12, tbm20, tbm32, tbm8190, tbm13, tbm21]
theorem lt_C (c a b y : Nat) : ((((c &&& 28799) ||| (a &&& 31) <<< 7) ||| (b &&& 31) <<< 15) ||| (y &&& 4095) <<< 20) < 4294967296 := (or_lt (or_lt (or_lt (and_lt _ _ (by decide)) (sh31_lt _ 7 (by decide))) (sh31_lt _ 15 (by decide))) (by rw [Nat.shiftLeft_eq]; have : y &&& 4095 ≤ 4095 := Nat.and_le_right; omega))
theorem msk_C (c a b y w : Nat) (h : w = ((((c &&& 28799) ||| (a &&& 31) <<< 7) ||| (b &&& 31) <<< 15) ||| (y &&& 4095) <<< 20)) : w &&& 28799 = c &&& 28799 := by
  subst h
  refine tb_all _ _ (and_lt _ _ (by decide)) (and_lt _ _ (by decide)) ?_
  refine lt32 ?_ ?_ ?_ ?_ ?_ ?_ ?_ ?_ ?_ ?_ ?_ ?_ ?_ ?_ ?_ ?_ ?_ ?_ ?_ ?_ ?_ ?_ ?_ ?_ ?_ ?_ ?_ ?_ ?_ ?_ ?_ ?_ <;> simp (disch := decide) [src, Nat.testBit_or, Nat.testBit_and, Nat.testBit_shiftLeft, Nat.testBit_shiftRight, -Nat.and_one_is_mod, -Nat.reducePow, -Nat.testBit_zero, tb32, tbmS, tbm707F, tbmFE, tbm1, tbm4, tbm5, tbm6, tbm7, tbm8, tbm10, tbm12, tbm20, tbm32, tbm8190, tbm13, tbm21]
theorem rdN_C (c a b y w : Nat) (h : w = ((((c &&& 28799) ||| (a &&& 31) <<< 7) ||| (b &&& 31) <<< 15) ||| (y &&& 4095) <<< 20)) : w >>> 7 &&& 31 = a &&& 31 := by
  subst h
  refine tb_all _ _ (and_lt _ _ (by decide)) (and_lt _ _ (by decide)) ?_
  refine lt32 ?_ ?_ ?_ ?_ ?_ ?_ ?_ ?_ ?_ ?_ ?_ ?_ ?_ ?_ ?_ ?_ ?_ ?_ ?_ ?_ ?_ ?_ ?_ ?_ ?_ ?_ ?_ ?_ ?_ ?_ ?_ ?_ <;> simp (disch := decide) [src, Nat.testBit_or, Nat.testBit_and, Nat.testBit_shiftLeft, Nat.testBit_shiftRight, -Nat.and_one_is_mod, -Nat.reducePow, -Nat.testBit_zero, tb32, tbmS, tbm707F, tbmFE, tbm1, tbm4, tbm5, tbm6, tbm7, tbm8, tbm10, tbm12, tbm20, tbm32, tbm8190, tbm13, tbm21]
theorem rs1N_C (c a b y w : Nat) (h : w = ((((c &&& 28799) ||| (a &&& 31) <<< 7) ||| (b &&& 31) <<< 15) ||| (y &&& 4095) <<< 20)) : w >>> 15 &&& 31 = b &&& 31 := by
  subst h
  refine tb_all _ _ (and_lt _ _ (by decide)) (and_lt _ _ (by decide)) ?_
  refine lt32 ?_ ?_ ?_ ?_ ?_ ?_ ?_ ?_ ?_ ?_ ?_ ?_ ?_ ?_ ?_ ?_ ?_ ?_ ?_ ?_ ?_ ?_ ?_ ?_ ?_ ?_ ?_ ?_ ?_ ?_ ?_ ?_ <;> simp (disch := decide) [src, Nat.testBit_or, Nat.testBit_and, Nat.testBit_shiftLeft, Nat.testBit_shiftRight, -Nat.and_one_is_mod, -Nat.reducePow, -Nat.testBit_zero, tb32, tbmS, tbm707F, tbmFE, tbm1, tbm4, tbm5, tbm6, tbm7, tbm8, tbm10, tbm12, tbm20, tbm32, tbm8190, tbm13, tbm21]
theorem im_C (c a b y w : Nat) (h : w = ((((c &&& 28799) ||| (a &&& 31) <<< 7) ||| (b &&& 31) <<< 15) ||| (y &&& 4095) <<< 20)) : w >>> 20 &&& 4095 = y &&& 4095 := by
  subst h
  refine tb_all _ _ (and_lt _ _ (by decide)) (and_lt _ _ (by decide)) ?_
  refine lt32 ?_ ?_ ?_ ?_ ?_ ?_ ?_ ?_ ?_ ?_ ?_ ?_ ?_ ?_ ?_ ?_ ?_ ?_ ?_ ?_ ?_ ?_ ?_ ?_ ?_ ?_ ?_ ?_ ?_ ?_ ?_ ?_ <;> simp (disch := decide) [src, Nat.testBit_or, Nat.testBit_and, Nat.testBit_shiftLeft, Nat.testBit_shiftRight, -Nat.and_one_is_mod, -Nat.reducePow, -Nat.testBit_zero, tb32, tbmS, tbm707F, tbmFE, tbm1, tbm4, tbm5, tbm6, tbm7, tbm8, tbm10, tbm12, tbm20, tbm32, tbm8190, tbm13, tbm21]
end Go.Proofs.L
