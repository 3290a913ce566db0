/- Proved here: lemmas and contracts (K1) for the laws of this seat, for all values of the stated types; no further condition. -/
import Derived.Test.YtjiiojbenbldlaaRow
namespace Go.Proofs.L
def setI (w x : Nat) : Nat := (w &&& 1048575) ||| (x <<< 20 % 2 ^ 32)
def setS (w x : Nat) : Nat := ((w &&& 33550463) ||| ((x >>> 5 &&& 127) <<< 25 % 2 ^ 32)) ||| ((x &&& 31) <<< 7 % 2 ^ 32)
def setB (w x : Nat) : Nat := ((((w &&& 33550463) ||| ((x >>> 12 &&& 1) <<< 31 % 2 ^ 32)) ||| ((x >>> 5 &&& 63) <<< 25 % 2 ^ 32)) ||| ((x >>> 1 &&& 15) <<< 8 % 2 ^ 32)) ||| ((x >>> 11 &&& 1) <<< 7 % 2 ^ 32)
def setU (w x : Nat) : Nat := (w &&& 4095) ||| (x >>> 12) <<< 12
def setJ (w x : Nat) : Nat := ((((w &&& 4095) ||| ((x >>> 20 &&& 1) <<< 31 % 2 ^ 32)) ||| ((x >>> 1 &&& 1023) <<< 21 % 2 ^ 32)) ||| ((x >>> 11 &&& 1) <<< 20 % 2 ^ 32)) ||| ((x >>> 12 &&& 255) <<< 12 % 2 ^ 32)
def plI (i : Nat) : Option Nat := if 20 ≤ i then some (i - 20) else none
def plS (i : Nat) : Option Nat := if 25 ≤ i then some (i - 20) else if 7 ≤ i ∧ i ≤ 11 then some (i - 7) else none
def plB (i : Nat) : Option Nat := if i = 31 then some 12 else if 25 ≤ i then some (i - 20) else if i = 7 then some 11 else if 8 ≤ i ∧ i ≤ 11 then some (i - 7) else none
def plU (i : Nat) : Option Nat := if 12 ≤ i then some i else none
def plJ (i : Nat) : Option Nat := if i = 31 then some 20 else if 21 ≤ i then some (i - 20) else if i = 20 then some 11 else if 12 ≤ i then some i else none
def src (w x i : Nat) (o : Option Nat) : Bool := o.elim (w.testBit i) (fun k => x.testBit k)
def Put (pl : Nat → Option Nat) (S w x : Nat) : Prop := ∀ i, i < 32 → S.testBit i = src w x i (pl i)
theorem tb_mod (x n i : Nat) : (x % 2 ^ n).testBit i = (decide (i < n) && x.testBit i) := Nat.testBit_mod_two_pow x n i
theorem tb_div (x n i : Nat) : (x / 2 ^ n).testBit i = x.testBit (n + i) := by
  rw [← Nat.shiftRight_eq_div_pow, Nat.testBit_shiftRight]
theorem lt32 {P : Nat → Prop} (h0 : P 0) (h1 : P 1) (h2 : P 2) (h3 : P 3) (h4 : P 4) (h5 : P 5) (h6 : P 6) (h7 : P 7) (h8 : P 8) (h9 : P 9) (h10 : P 10) (h11 : P 11) (h12 : P 12) (h13 : P 13) (h14 : P 14) (h15 : P 15) (h16 : P 16) (h17 : P 17) (h18 : P 18) (h19 : P 19) (h20 : P 20) (h21 : P 21) (h22 : P 22) (h23 : P 23) (h24 : P 24) (h25 : P 25) (h26 : P 26) (h27 : P 27) (h28 : P 28) (h29 : P 29) (h30 : P 30) (h31 : P 31) : ∀ i, i < 32 → P i := by
  intro i hi
  match i, hi with
  | 0, _ => exact h0
  | 1, _ => exact h1
  | 2, _ => exact h2
  | 3, _ => exact h3
  | 4, _ => exact h4
  | 5, _ => exact h5
  | 6, _ => exact h6
  | 7, _ => exact h7
  | 8, _ => exact h8
  | 9, _ => exact h9
  | 10, _ => exact h10
  | 11, _ => exact h11
  | 12, _ => exact h12
  | 13, _ => exact h13
  | 14, _ => exact h14
  | 15, _ => exact h15
  | 16, _ => exact h16
  | 17, _ => exact h17
  | 18, _ => exact h18
  | 19, _ => exact h19
  | 20, _ => exact h20
  | 21, _ => exact h21
  | 22, _ => exact h22
  | 23, _ => exact h23
  | 24, _ => exact h24
  | 25, _ => exact h25
  | 26, _ => exact h26
  | 27, _ => exact h27
  | 28, _ => exact h28
  | 29, _ => exact h29
  | 30, _ => exact h30
  | 31, _ => exact h31
  | n + 32, h => omega
theorem tbm1 (i : Nat) : Nat.testBit 1 i = decide (i < 1) := Nat.testBit_two_pow_sub_one 1 i
theorem tbm4 (i : Nat) : Nat.testBit 15 i = decide (i < 4) := Nat.testBit_two_pow_sub_one 4 i
theorem tbm5 (i : Nat) : Nat.testBit 31 i = decide (i < 5) := Nat.testBit_two_pow_sub_one 5 i
theorem tbm6 (i : Nat) : Nat.testBit 63 i = decide (i < 6) := Nat.testBit_two_pow_sub_one 6 i
theorem tbm7 (i : Nat) : Nat.testBit 127 i = decide (i < 7) := Nat.testBit_two_pow_sub_one 7 i
theorem tbm8 (i : Nat) : Nat.testBit 255 i = decide (i < 8) := Nat.testBit_two_pow_sub_one 8 i
theorem tbm10 (i : Nat) : Nat.testBit 1023 i = decide (i < 10) := Nat.testBit_two_pow_sub_one 10 i
theorem tbm12 (i : Nat) : Nat.testBit 4095 i = decide (i < 12) := Nat.testBit_two_pow_sub_one 12 i
theorem tbm20 (i : Nat) : Nat.testBit 1048575 i = decide (i < 20) := Nat.testBit_two_pow_sub_one 20 i
theorem tbmS : ∀ i, i < 32 → Nat.testBit 33550463 i = (decide (i < 7) || decide (12 ≤ i ∧ i < 25)) := by decide
theorem tb32 (x i : Nat) : (x % 2 ^ 32).testBit i = (decide (i < 32) && x.testBit i) := Nat.testBit_mod_two_pow x 32 i
theorem putI (w x : Nat) : Put plI (setI w x) w x := by
  unfold setI
  refine lt32 ?_ ?_ ?_ ?_ ?_ ?_ ?_ ?_ ?_ ?_ ?_ ?_ ?_ ?_ ?_ ?_ ?_ ?_ ?_ ?_ ?_ ?_ ?_ ?_ ?_ ?_ ?_ ?_ ?_ ?_ ?_ ?_ <;> simp (disch := decide) [src, plI, tb32, Nat.testBit_or, Nat.testBit_and, Nat.testBit_shiftLeft, Nat.testBit_shiftRight, -Nat.and_one_is_mod, -Nat.reducePow, tbmS, tbm1, tbm4, tbm5, tbm6, tbm7, tbm8, tbm10, tbm12, tbm20]
theorem putS (w x : Nat) : Put plS (setS w x) w x := by
  unfold setS
  refine lt32 ?_ ?_ ?_ ?_ ?_ ?_ ?_ ?_ ?_ ?_ ?_ ?_ ?_ ?_ ?_ ?_ ?_ ?_ ?_ ?_ ?_ ?_ ?_ ?_ ?_ ?_ ?_ ?_ ?_ ?_ ?_ ?_ <;> simp (disch := decide) [src, plS, tb32, Nat.testBit_or, Nat.testBit_and, Nat.testBit_shiftLeft, Nat.testBit_shiftRight, -Nat.and_one_is_mod, -Nat.reducePow, tbmS, tbm1, tbm4, tbm5, tbm6, tbm7, tbm8, tbm10, tbm12, tbm20]
theorem putB (w x : Nat) : Put plB (setB w x) w x := by
  unfold setB
  refine lt32 ?_ ?_ ?_ ?_ ?_ ?_ ?_ ?_ ?_ ?_ ?_ ?_ ?_ ?_ ?_ ?_ ?_ ?_ ?_ ?_ ?_ ?_ ?_ ?_ ?_ ?_ ?_ ?_ ?_ ?_ ?_ ?_ <;> simp (disch := decide) [src, plB, tb32, Nat.testBit_or, Nat.testBit_and, Nat.testBit_shiftLeft, Nat.testBit_shiftRight, -Nat.and_one_is_mod, -Nat.reducePow, tbmS, tbm1, tbm4, tbm5, tbm6, tbm7, tbm8, tbm10, tbm12, tbm20]
theorem putU (w x : Nat) : Put plU (setU w x) w x := by
  unfold setU
  refine lt32 ?_ ?_ ?_ ?_ ?_ ?_ ?_ ?_ ?_ ?_ ?_ ?_ ?_ ?_ ?_ ?_ ?_ ?_ ?_ ?_ ?_ ?_ ?_ ?_ ?_ ?_ ?_ ?_ ?_ ?_ ?_ ?_ <;> simp (disch := decide) [src, plU, tb32, Nat.testBit_or, Nat.testBit_and, Nat.testBit_shiftLeft, Nat.testBit_shiftRight, -Nat.and_one_is_mod, -Nat.reducePow, tbmS, tbm1, tbm4, tbm5, tbm6, tbm7, tbm8, tbm10, tbm12, tbm20]
theorem putJ (w x : Nat) : Put plJ (setJ w x) w x := by
  unfold setJ
  refine lt32 ?_ ?_ ?_ ?_ ?_ ?_ ?_ ?_ ?_ ?_ ?_ ?_ ?_ ?_ ?_ ?_ ?_ ?_ ?_ ?_ ?_ ?_ ?_ ?_ ?_ ?_ ?_ ?_ ?_ ?_ ?_ ?_ <;> simp (disch := decide) [src, plJ, tb32, Nat.testBit_or, Nat.testBit_and, Nat.testBit_shiftLeft, Nat.testBit_shiftRight, -Nat.and_one_is_mod, -Nat.reducePow, tbmS, tbm1, tbm4, tbm5, tbm6, tbm7, tbm8, tbm10, tbm12, tbm20]
/-- the reference's loop: bits below i are the new word's, the others the old one's -/
def mixN (S w i : Nat) : Nat := w / 2 ^ i * 2 ^ i + S % 2 ^ i
theorem mix_zero (S w : Nat) : mixN S w 0 = w := by simp [mixN, Nat.mod_one]
theorem mix_full (S w : Nat) (hS : S < 4294967296) (hw : w < 4294967296) : mixN S w 32 = S := by
  simp only [mixN, Nat.reducePow]; omega
theorem bit_split (w i : Nat) : w / 2 ^ i = 2 * (w / 2 ^ (i + 1)) + w / 2 ^ i % 2 := by
  rw [Nat.pow_succ, ← Nat.div_div_eq_div_mul]; omega
theorem mix_step (S w i : Nat) : mixN S w (i + 1) = w / 2 ^ (i + 1) * 2 ^ (i + 1) + S / 2 ^ i % 2 * 2 ^ i + S % 2 ^ i := by
  unfold mixN
  rw [Nat.mod_pow_succ, Nat.mul_comm (2 ^ i)]; omega
theorem mix_here (S w i : Nat) : mixN S w i = w / 2 ^ (i + 1) * 2 ^ (i + 1) + (w / 2 ^ i % 2 * 2 ^ i + S % 2 ^ i) := by
  unfold mixN
  conv => lhs; rw [bit_split w i]
  rw [Nat.add_mul, Nat.pow_succ, Nat.add_assoc]
  congr 1
  rw [Nat.mul_comm 2, Nat.mul_assoc, Nat.mul_comm 2]
theorem mix_lt (S w i : Nat) (hi : i ≤ 32) (hS : S < 4294967296) (hw : w < 4294967296) : mixN S w i < 4294967296 := by
  have h32 : (2 : Nat) ^ 32 = 2 ^ (32 - i) * 2 ^ i := by rw [← Nat.pow_add]; congr 1; omega
  have h2 : w / 2 ^ i < 2 ^ (32 - i) := by
    rw [Nat.div_lt_iff_lt_mul (Nat.two_pow_pos _), ← h32]; omega
  have h3 : S % 2 ^ i < 2 ^ i := Nat.mod_lt _ (Nat.two_pow_pos _)
  have h4 : (w / 2 ^ i + 1) * 2 ^ i ≤ 2 ^ (32 - i) * 2 ^ i := Nat.mul_le_mul_right _ h2
  rw [← h32, Nat.add_mul] at h4
  unfold mixN
  omega
theorem mix_skip (S w i : Nat) (h : S / 2 ^ i % 2 = w / 2 ^ i % 2) : mixN S w (i + 1) = mixN S w i := by
  rw [mix_step, mix_here, h]; omega
end Go.Proofs.L
