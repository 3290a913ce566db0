/- Proved here: lemmas and contracts (RefPlain) for the laws of this seat, for all values of the stated types; no further condition. -/
import Derived.Test.YtaoocfemgkjcnaaDoorRootsDefs
open Go Go.RowKit Go.Lib
namespace Go.Proofs.L
theorem bit_u64 (a b : Nat) (ha : a < 18446744073709551616) (hb : b < 18446744073709551616) :
    bits .xor .u64 (a : Int) (b : Int) = ((a ^^^ b : Nat) : Int) ∧ bits .and .u64 (a : Int) (b : Int) = ((a &&& b : Nat) : Int) := by
  have e1 : (BitVec.ofInt 64 (a : Int)).toNat = a := by rw [BitVec.ofInt_natCast, BitVec.toNat_ofNat, Nat.mod_eq_of_lt (show a < 2 ^ 64 from ha)]
  have e2 : (BitVec.ofInt 64 (b : Int)).toNat = b := by rw [BitVec.ofInt_natCast, BitVec.toNat_ofNat, Nat.mod_eq_of_lt (show b < 2 ^ 64 from hb)]
  refine ⟨?_, ?_⟩
  · show IntKind.u64.wrap ((BitVec.ofInt 64 (a : Int) ^^^ BitVec.ofInt 64 (b : Int)).toNat : Int) = _
    rw [BitVec.toNat_xor, e1, e2, u64w]
    have : a ^^^ b < 2 ^ 64 := Nat.xor_lt_two_pow ha hb
    omega
  · show IntKind.u64.wrap ((BitVec.ofInt 64 (a : Int) &&& BitVec.ofInt 64 (b : Int)).toNat : Int) = _
    rw [BitVec.toNat_and, e1, e2, u64w]
    have : a &&& b < 2 ^ 64 := Nat.and_lt_two_pow _ hb
    omega
theorem or_add (n a b : Nat) (hb : b < 2 ^ n) : a * 2 ^ n ||| b = a * 2 ^ n + b := by
  rw [Nat.mul_comm, Nat.two_pow_add_eq_or_of_lt hb]
theorem right_rot (x n : Nat) (hx : x < 4294967296) (hn : 0 < n) (hn2 : n < 32) : rightN x n = rotl x (32 - n) := by
  unfold rightN rotl
  have hsub : 32 - (32 - n) = n := by omega
  rw [hsub]
  have hp : 2 ^ n * 2 ^ (32 - n) = 4294967296 := by rw [← Nat.pow_add, show n + (32 - n) = 32 by omega]
  obtain ⟨s, hs⟩ : ∃ s, s = 32 - n := ⟨_, rfl⟩
  rw [← hs] at hp ⊢
  have h1 : x * 2 ^ s % 4294967296 = (x % 2 ^ n) * 2 ^ s := by
    rw [← hp, Nat.mul_mod_mul_right]
  have hq : x / 2 ^ n < 2 ^ s := by
    rw [Nat.div_lt_iff_lt_mul (Nat.two_pow_pos n), Nat.mul_comm, hp]; exact hx
  rw [h1, or_add s _ _ hq]
  have h2 : x * 2 ^ s < 18446744073709551616 := by
    have a1 : 2 ^ s ≤ 2 ^ 31 := Nat.pow_le_pow_right (by decide) (by omega)
    have a2 : x * 2 ^ s ≤ 4294967296 * 2 ^ 31 := Nat.mul_le_mul (Nat.le_of_lt hx) a1
    omega
  rw [Nat.mod_eq_of_lt h2]
  have h3 : x / 2 ^ n < 4294967296 := Nat.lt_of_le_of_lt (Nat.div_le_self _ _) hx
  have h4 : x * 2 ^ s ≤ 4294967296 * 2147483648 := Nat.mul_le_mul (Nat.le_of_lt hx) (show 2 ^ s ≤ 2 ^ 31 from Nat.pow_le_pow_right (by decide) (by omega))
  rw [Nat.mod_eq_of_lt (show x / 2 ^ n + x * 2 ^ s < 18446744073709551616 by omega)]
  have h5 : x % 2 ^ n * 2 ^ s + x / 2 ^ n < 4294967296 := by
    have a1 : x % 2 ^ n + 1 ≤ 2 ^ n := Nat.mod_lt _ (Nat.two_pow_pos n)
    have a2 := Nat.mul_le_mul_right (2 ^ s) a1
    rw [hp, Nat.add_mul] at a2
    omega
  rw [Nat.add_mod, h1, Nat.mod_eq_of_lt h3, Nat.add_comm, Nat.mod_eq_of_lt h5]
theorem byte_or (x b : Nat) (hx : x < 16777216) (hb : b < 256) : (x * 256 % 18446744073709551616 + b) % 18446744073709551616 = x * 256 % 4294967296 ||| b := by
  have h1 : x * 256 % 4294967296 = x * 2 ^ 8 := by omega
  rw [h1, or_add 8 x b hb]
  omega
theorem w1_small (p : List Nat) (hp : ∀ x ∈ p, x < 256) (t : Nat) : (w1 p t).getD (t / 4) 0 < 256 ^ (t % 4) ∧ ∀ j, t / 4 < j → (w1 p t).getD j 0 = 0 := by
  induction t with
  | zero => exact ⟨by show (List.replicate 64 0).getD 0 0 < 1; decide, fun j hj => by
      show (List.replicate 64 0).getD j 0 = 0
      rw [List.getD_eq_getElem?_getD, List.getElem?_replicate]; split <;> rfl⟩
  | succ t ih =>
    obtain ⟨h1, h2⟩ := ih
    have hg : ∀ j, t / 4 < j → (w1 p (t + 1)).getD j 0 = 0 := fun j hj => by
      show ((w1 p t).set _ _).getD j 0 = 0
      rw [List.getD_eq_getElem?_getD, List.getElem?_set_ne (by omega), ← List.getD_eq_getElem?_getD]
      exact h2 j hj
    by_cases h3 : t % 4 = 3
    · have e1 : (t + 1) / 4 = t / 4 + 1 := by omega
      have e2 : (t + 1) % 4 = 0 := by omega
      rw [e1, e2]
      refine ⟨?_, fun j hj => hg j (by omega)⟩
      rw [hg _ (by omega)]; decide
    · have e1 : (t + 1) / 4 = t / 4 := by omega
      have e2 : (t + 1) % 4 = t % 4 + 1 := by omega
      rw [e1, e2]
      refine ⟨?_, hg⟩
      show ((w1 p t).set (t / 4) (((w1 p t).getD (t / 4) 0 * 256 % 4294967296) ||| p.getD t 0)).getD (t / 4) 0 < _
      have hpb : p.getD t 0 < 256 := getD_lt hp (by decide) t
      have hle : (w1 p t).getD (t / 4) 0 < 16777216 := Nat.lt_of_lt_of_le h1 (by
        have : 256 ^ (t % 4) ≤ 256 ^ 3 := Nat.pow_le_pow_right (by decide) (by omega)
        exact this)
      rw [← byte_or _ _ hle hpb]
      by_cases hlen : t / 4 < (w1 p t).length
      · rw [List.getD_eq_getElem?_getD, List.getElem?_set_self hlen]
        show (_ + _) % _ < _
        rw [Nat.pow_succ]
        have h5 : ((w1 p t).getD (t / 4) 0 + 1) * 256 ≤ 256 ^ (t % 4) * 256 := Nat.mul_le_mul_right 256 h1
        omega
      · rw [List.getD_eq_getElem?_getD, List.getElem?_eq_none (by rw [List.length_set]; omega)]
        exact Nat.pow_pos (by decide)
theorem w1_lt24 (p : List Nat) (hp : ∀ x ∈ p, x < 256) (t : Nat) : (w1 p t).getD (t / 4) 0 < 16777216 :=
  Nat.lt_of_lt_of_le (w1_small p hp t).1 (by
    have : 256 ^ (t % 4) ≤ 256 ^ 3 := Nat.pow_le_pow_right (by decide) (by omega)
    exact this)
theorem ch_eq (e f g : Nat) (he : e < 4294967296) (hg : g < 4294967296) : (e &&& f) ^^^ ((4294967295 - e) &&& g) = g ^^^ (e &&& (f ^^^ g)) := by
  apply Nat.eq_of_testBit_eq
  intro i
  simp only [Nat.testBit_xor, Nat.testBit_and]
  by_cases hi : i < 32
  · have h1 : (4294967295 - e).testBit i = !e.testBit i := by
      have := Nat.testBit_two_pow_sub_succ (n := 32) (x := e) he i
      rw [show (2 ^ 32 - (e + 1)) = 4294967295 - e by omega] at this
      rw [this, decide_eq_true hi]; simp
    rw [h1]
    cases e.testBit i <;> cases f.testBit i <;> cases g.testBit i <;> rfl
  · have g0 : g.testBit i = false := Nat.testBit_lt_two_pow (Nat.lt_of_lt_of_le hg (Nat.pow_le_pow_right (n := 2) (i := 32) (by decide) (by omega)))
    have e0 : e.testBit i = false := Nat.testBit_lt_two_pow (Nat.lt_of_lt_of_le he (Nat.pow_le_pow_right (n := 2) (i := 32) (by decide) (by omega)))
    rw [g0, e0]; simp
theorem maj_eq (a b c : Nat) : ((a &&& b) ^^^ (a &&& c)) ^^^ (b &&& c) = (a &&& b) ||| (c &&& (a ||| b)) := by
  apply Nat.eq_of_testBit_eq
  intro i
  simp only [Nat.testBit_xor, Nat.testBit_and, Nat.testBit_or]
  cases a.testBit i <;> cases b.testBit i <;> cases c.testBit i <;> rfl
end Go.Proofs.L
