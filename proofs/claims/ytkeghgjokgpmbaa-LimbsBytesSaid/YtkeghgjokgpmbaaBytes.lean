/- Proved here: lemmas and contracts (Bytes) for the laws of this seat, for all values of the stated types; no further condition. -/
import Derived.Test.YtkeghgjokgpmbaaFit
import Derived.Laws.BytesArg
open Go Go.RowKit
namespace Go.Proofs.L
/-- byte k of n -/
def B8 (n k : Nat) : Nat := n / 2 ^ (8 * k) % 256
theorem B8_lt (n k : Nat) : B8 n k < 256 := Nat.mod_lt _ (by decide)
/-- the bytes, the highest first -/
def bl (n : Nat) : List Int := (List.range 32).map fun i => (B8 n (31 - i) : Int)
theorem bl_len (n : Nat) : (bl n).length = 32 := by simp [bl]
theorem bl_get (n i : Nat) (h : i < 32) : (bl n).getD i 0 = (B8 n (31 - i) : Int) := by simp [bl, h]
def byts (n : Nat) : Array Value := cellsK .u8 (bl n)
/-- limb j after k bytes have been read -/
def St (n k j : Nat) : Nat := D n j / 2 ^ (8 * (4 - (k - 4 * (7 - j))))
def stL (n k : Nat) : List Int := (List.range 8).map fun j => (St n k j : Int)
theorem stL_len (n k : Nat) : (stL n k).length = 8 := by simp [stL]
theorem stL_get (n k j : Nat) (h : j < 8) : (stL n k).getD j 0 = (St n k j : Int) := by simp [stL, h]
theorem stL_zero (n : Nat) : stL n 0 = dig 0 := by
  unfold stL dig
  apply List.map_congr_left
  intro j _
  have : D n j / 2 ^ (8 * (4 - (0 - 4 * (7 - j)))) = 0 := by
    rw [show 4 - (0 - 4 * (7 - j)) = 4 from by omega]
    exact Nat.div_eq_of_lt (D_lt n j)
  unfold St; rw [this]; simp [D]
theorem stL_full (n : Nat) : stL n 32 = dig n := by
  unfold stL dig
  apply List.map_congr_left
  intro j hj
  have hj := List.mem_range.1 hj
  unfold St
  rw [show 4 - (32 - 4 * (7 - j)) = 0 from by omega]; simp
theorem B8_D (n k : Nat) (hk : k < 32) : B8 n (31 - k) = D n (7 - k / 4) / 2 ^ (8 * (3 - k % 4)) % 256 := by
  unfold B8 D
  have h : 31 - k = 4 * (7 - k / 4) + (3 - k % 4) := by omega
  rw [h]
  generalize 7 - k / 4 = j
  have hr : 3 - k % 4 < 4 := by omega
  generalize 3 - k % 4 = r at *
  rw [show 8 * (4 * j + r) = 32 * j + 8 * r from by omega, Nat.pow_add, ← Nat.div_div_eq_div_mul]
  generalize n / 2 ^ (32 * j) = x
  have e : (4294967296 : Nat) = 2 ^ (8 * r) * 2 ^ (32 - 8 * r) := by rw [← Nat.pow_add, show 8 * r + (32 - 8 * r) = 32 from by omega]
  rw [e, Nat.mod_mul_right_div_self, Nat.mod_mod_of_dvd]
  have : (2:Nat) ^ 8 ∣ 2 ^ (32 - 8 * r) := Nat.pow_dvd_pow 2 (by omega)
  exact this
theorem St_step (n k : Nat) (hk : k < 32) : St n (k + 1) (7 - k / 4) = St n k (7 - k / 4) * 256 + B8 n (31 - k) ∧ St n k (7 - k / 4) < 16777216 := by
  rw [B8_D n k hk]
  unfold St
  have h7 : 7 - (7 - k / 4) = k / 4 := by omega
  rw [h7, show k + 1 - 4 * (k / 4) = k % 4 + 1 from by omega, show k - 4 * (k / 4) = k % 4 from by omega]
  have hd := D_lt n (7 - k / 4)
  generalize D n (7 - k / 4) = d at *
  have hr : k % 4 < 4 := Nat.mod_lt _ (by decide)
  generalize k % 4 = r at *
  have hs : r = 0 ∨ r = 1 ∨ r = 2 ∨ r = 3 := by omega
  rcases hs with rfl | rfl | rfl | rfl <;> simp <;> omega
theorem St_other (n k j : Nat) (hj : j < 8) (hne : j ≠ 7 - k / 4) (hk : k < 32) : St n (k + 1) j = St n k j := by
  unfold St
  have : k / 4 < 7 - j ∨ 7 - j < k / 4 := by omega
  congr 2
  rcases this with h | h
  · rw [show k + 1 - 4 * (7 - j) = 0 from by omega, show k - 4 * (7 - j) = 0 from by omega]
  · rw [show 4 - (k + 1 - 4 * (7 - j)) = 0 from by omega, show 4 - (k - 4 * (7 - j)) = 0 from by omega]
theorem stL_set (n k : Nat) (hk : k < 32) : (stL n k).set (7 - k / 4) ((St n k (7 - k / 4) * 256 + B8 n (31 - k) : Nat) : Int) = stL n (k + 1) := by
  rw [← (St_step n k hk).1]
  apply List.ext_getElem
  · simp [stL]
  · intro i h1 h2
    simp only [stL, List.length_map, List.length_range] at h2
    rw [List.getElem_set]
    simp only [stL, List.getElem_map, List.getElem_range]
    by_cases h : 7 - k / 4 = i
    · subst h; simp
    · rw [if_neg h, St_other n k i h2 (fun e => h e.symm) hk]
theorem or_byte (x c : Nat) (hx : x < 16777216) (hc : c < 256) : bits .or .u32 ((x : Int) * 256) (c : Int) = ((x * 256 + c : Nat) : Int) := by
  show IntKind.u32.wrap ((BitVec.ofInt 32 ((x : Int) * 256) ||| BitVec.ofInt 32 (c : Int)).toNat : Int) = _
  have h1 : (BitVec.ofInt 32 ((x : Int) * 256)).toNat = x * 256 := by
    rw [show ((x : Int) * 256) = ((x * 256 : Nat) : Int) from by omega, BitVec.ofInt_natCast, BitVec.toNat_ofNat]; exact Nat.mod_eq_of_lt (by omega)
  have h2 : (BitVec.ofInt 32 (c : Int)).toNat = c := by rw [BitVec.ofInt_natCast, BitVec.toNat_ofNat]; exact Nat.mod_eq_of_lt (by omega)
  have h3 : x * 256 ||| c = x * 256 + c := by
    have := Nat.two_pow_add_eq_or_of_lt (i := 8) (b := c) (by omega) x
    rw [show (2:Nat) ^ 8 = 256 from rfl] at this
    rw [Nat.mul_comm x 256]; omega
  rw [BitVec.toNat_or, h1, h2, h3]
  simp [IntKind.wrap, IntKind.bits, IntKind.signed]; omega
end Go.Proofs.L
