/- Proved here: lemmas and contracts (Bits) for the laws of this seat, for all values of the stated types; no further condition. -/
import Derived.Test.YtfalldoimbedbaaRefErase
open Go Go.RowKit Go.Lib
namespace Go.Proofs.L
def uw (v y k : Nat) : Nat := v &&& (y ||| (4294967296 - 2 ^ k))
theorem hi_bits (k j : Nat) (hk : k ≤ 32) : (4294967296 - 2 ^ k).testBit j = (decide (j < 32) && decide (k ≤ j)) := by
  have h : 2 ^ k - 1 < 2 ^ 32 := by
    have := Nat.pow_le_pow_right (n := 2) (by decide) hk
    have := Nat.two_pow_pos k
    omega
  have e : 4294967296 - 2 ^ k = 2 ^ 32 - (2 ^ k - 1 + 1) := by have := Nat.two_pow_pos k; omega
  rw [e, Nat.testBit_two_pow_sub_succ h, Nat.testBit_two_pow_sub_one]
  by_cases h2 : j < k
  · simp only [h2, decide_true, Bool.not_true, Bool.and_false]; simp; omega
  · simp only [h2, decide_false, Bool.not_false, Bool.and_true]; simp; omega
theorem uw_zero (v y : Nat) (hv : v < 4294967296) : uw v y 0 = v := by
  apply Nat.eq_of_testBit_eq
  intro j
  unfold uw
  rw [Nat.testBit_and, Nat.testBit_or, hi_bits 0 j (by decide)]
  by_cases hj : j < 32
  · simp [hj]
  · rw [Nat.testBit_lt_two_pow (Nat.lt_of_lt_of_le hv (Nat.pow_le_pow_right (n := 2) (by decide) (show 32 ≤ j by omega)))]; simp
theorem uw_last (v y : Nat) : uw v y 32 = v &&& y := by unfold uw; simp
theorem uw_lt (v y k : Nat) (hv : v < 4294967296) : uw v y k < 4294967296 := and_lt _ _ hv
theorem or_add (a k : Nat) (ha : a < 4294967296) (hk : k < 32) (h : a.testBit k = false) : a ||| 2 ^ k = a + 2 ^ k := by
  have hp : 2 ^ k < 4294967296 := by
    have := Nat.pow_lt_pow_right (a := 2) (by decide) hk
    simpa using this
  have h0 : BitVec.ofNat 32 a &&& BitVec.ofNat 32 (2 ^ k) = 0#32 := by
    apply BitVec.eq_of_toNat_eq
    rw [BitVec.toNat_and, BitVec.toNat_ofNat, BitVec.toNat_ofNat, Nat.mod_eq_of_lt ha, Nat.mod_eq_of_lt hp]
    apply Nat.eq_of_testBit_eq
    intro j
    rw [Nat.testBit_and, Nat.testBit_two_pow]
    by_cases hj : k = j
    · subst hj; simp [h]
    · simp [hj]
  have h1 := congrArg BitVec.toNat (BitVec.add_eq_or_of_and_eq_zero _ _ h0)
  rw [BitVec.toNat_add, BitVec.toNat_or, BitVec.toNat_ofNat, BitVec.toNat_ofNat, Nat.mod_eq_of_lt ha, Nat.mod_eq_of_lt hp] at h1
  have h2 : a ≤ a ||| 2 ^ k := Nat.left_le_or
  generalize 2 ^ k = p at *
  generalize a ||| p = q at *
  omega
theorem bit1 (n k : Nat) : n.testBit k = decide (n / 2 ^ k % 2 = 1) := Nat.testBit_eq_decide_div_mod_eq
theorem uw_bit (v y k j : Nat) (hk : k ≤ 32) : (uw v y k).testBit j = (v.testBit j && (y.testBit j || (decide (j < 32) && decide (k ≤ j)))) := by
  unfold uw; rw [Nat.testBit_and, Nat.testBit_or, hi_bits k j hk]
theorem uw_step_no (v x B k : Nat) (hk : k < 32) (hB : B < 4294967296) (h : ¬ (B / 2 ^ k % 2 = 1 ∧ x / 2 ^ k % 2 = 0 ∧ uw v (x ||| (4294967295 - B)) k / 2 ^ k % 2 = 1)) :
    uw v (x ||| (4294967295 - B)) (k + 1) = uw v (x ||| (4294967295 - B)) k := by
  apply Nat.eq_of_testBit_eq
  intro j
  rw [uw_bit _ _ _ _ (by omega), uw_bit _ _ _ _ (by omega)]
  by_cases hj : j = k
  · subst hj
    have hb : (4294967295 - B).testBit j = !B.testBit j := by
      rw [show 4294967295 - B = 2 ^ 32 - (B + 1) by omega, Nat.testBit_two_pow_sub_succ hB]; simp [hk]
    have hu := uw_bit v (x ||| (4294967295 - B)) j j (by omega)
    rw [bit1] at hu
    simp only [hk, Nat.le_refl, decide_true, Bool.and_true, Bool.or_true, show ¬ (j + 1 ≤ j) by omega, decide_false, Bool.and_false, Bool.or_false] at hu ⊢
    rw [Nat.testBit_or, hb]
    have hbB : B.testBit j = decide (B / 2 ^ j % 2 = 1) := bit1 _ _
    have hbx : x.testBit j = decide (x / 2 ^ j % 2 = 1) := bit1 _ _
    have h2 : x / 2 ^ j % 2 = 0 ∨ x / 2 ^ j % 2 = 1 := by omega
    rw [hbB, hbx]
    cases hv : v.testBit j with
    | false => rfl
    | true =>
      rw [hv] at hu
      have hu1 : uw v (x ||| (4294967295 - B)) j / 2 ^ j % 2 = 1 := by simpa using hu
      by_cases hB1 : B / 2 ^ j % 2 = 1
      · by_cases hx0 : x / 2 ^ j % 2 = 0
        · exact absurd ⟨hB1, hx0, hu1⟩ h
        · have hx1 : x / 2 ^ j % 2 = 1 := by omega
          simp [hx1]
      · simp [hB1]
  · have : (decide (k + 1 ≤ j)) = decide (k ≤ j) := by rw [decide_eq_decide]; omega
    rw [this]
theorem uw_step_yes (v x B k : Nat) (hk : k < 32) (hv : v < 4294967296) (hB : B < 4294967296) (h : B / 2 ^ k % 2 = 1 ∧ x / 2 ^ k % 2 = 0 ∧ uw v (x ||| (4294967295 - B)) k / 2 ^ k % 2 = 1) :
    uw v (x ||| (4294967295 - B)) k = uw v (x ||| (4294967295 - B)) (k + 1) + 2 ^ k := by
  have hb : (4294967295 - B).testBit k = !B.testBit k := by
    rw [show 4294967295 - B = 2 ^ 32 - (B + 1) by omega, Nat.testBit_two_pow_sub_succ hB]; simp [hk]
  have hB1 : B.testBit k = true := by rw [bit1]; simp [h.1]
  have hx0 : x.testBit k = false := by rw [bit1]; simp [h.2.1]
  have hu : (uw v (x ||| (4294967295 - B)) k).testBit k = true := by rw [bit1]; simp [h.2.2]
  have hz : (uw v (x ||| (4294967295 - B)) (k + 1)).testBit k = false := by
    rw [uw_bit _ _ _ _ (by omega), Nat.testBit_or, hb, hB1, hx0]; simp
  rw [← or_add _ k (uw_lt _ _ _ hv) hk hz]
  apply Nat.eq_of_testBit_eq
  intro j
  rw [Nat.testBit_or, Nat.testBit_two_pow]
  by_cases hj : k = j
  · subst hj; rw [hu]; simp
  · rw [uw_bit _ _ _ _ (by omega), uw_bit _ _ _ _ (by omega)]
    have : (decide (k + 1 ≤ j)) = decide (k ≤ j) := by rw [decide_eq_decide]; omega
    rw [this]; simp [hj]
end Go.Proofs.L
