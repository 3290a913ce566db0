/- Proved here: lemmas and contracts (R23) for the laws of this seat, for all values of the stated types; no further condition. -/
import Derived.Test.YtjiiojbenbldlaaR22
open Go Go.RowKit Go.Lib
namespace Go.Proofs.L
/-! what Apply makes of one branch, of one jump (RelocFar) -/
def zN : Nat → Nat := fun _ => 0
def atB : Nat := 2147487744
theorem zN_ld : (ldN zN 2147487744).1 = 0 := by decide +kernel
theorem zN_ld2 : (ldN zN 2147487744).2 = 0 := by decide +kernel
theorem sym0 (b : Nat) : symN [] b 0 = 0 := rfl
theorem fin_at (x : Nat) : finN zN 2147487744 x = (0, stN zN 4096 x 4) := by
  unfold finN sdN
  rw [if_pos (by decide)]
  rfl
theorem far_one (ty : Int) (add : Nat) (hs : sizeN ty = 4) (h1 : ty ≠ 3) : oneN 2147487744 [⟨0, ty, 0, add⟩] [] [⟨2147487744, 4, 0⟩] zN ⟨0, ty, 0, add⟩ = tailN 2147487744 [⟨0, ty, 0, add⟩] [] zN 2147487744 ty ((0 + add) % 4294967296) 0 add := by
  unfold oneN
  rw [if_neg (by
    show ¬ (sizeN ty = 0 ∨ withinN [⟨2147487744, 4, 0⟩] 2147487744 (sizeN ty) = false)
    rw [hs]
    decide), if_neg (by
    show ¬ ((ty ≠ 1 ∧ ty ≠ 3 ∧ (2147487744 + 0) % 4294967296 % 4 ≠ 0) ∨ (ty = 3 ∧ (0 : Int) ≠ 0))
    omega), if_neg (by show ¬ (ldN zN 2147487744).2 ≠ 0; rw [zN_ld2]; decide)]
  show tailN 2147487744 _ [] zN 2147487744 ty ((symN [] 2147487744 0 + add) % 4294967296) (ldN zN 2147487744).1 add = _
  rw [zN_ld, sym0]
theorem far_apply16 (u add : Nat) (hu : u < 4294967296) (ha : add = (u + 2147487744) % 4294967296) :
    applyN 2147487744 [⟨0, 16, 0, add⟩] [] [⟨2147487744, 4, 0⟩] [⟨0, 16, 0, add⟩] zN = if farN u 13 then (14, zN) else (0, stN zN 4096 (setB 0 u) 4) := by
  have h1 := far_one 16 add (by decide) (by decide)
  have h2 : (0 + add) % 4294967296 = add := by omega
  have h3 : subw add 2147487744 = u := by unfold subw; omega
  have h4 : tailN 2147487744 [⟨0, 16, 0, add⟩] [] zN 2147487744 16 add 0 add = if farN u 13 then (14, zN) else (0, stN zN 4096 (setB 0 u) 4) := by
    unfold tailN
    rw [if_neg (show ¬ ((16 : Int) = 3) by decide), if_neg (show ¬ ((16 : Int) = 1) by decide), if_pos rfl, h3, fin_at]
  unfold applyN
  rw [h1, h2, h4]
  cases farN u 13 <;> rfl
theorem far_apply17 (u add : Nat) (hu : u < 4294967296) (ha : add = (u + 2147487744) % 4294967296) :
    applyN 2147487744 [⟨0, 17, 0, add⟩] [] [⟨2147487744, 4, 0⟩] [⟨0, 17, 0, add⟩] zN = if farN u 21 then (14, zN) else (0, stN zN 4096 (setJ 0 u) 4) := by
  have h1 := far_one 17 add (by decide) (by decide)
  have h2 : (0 + add) % 4294967296 = add := by omega
  have h3 : subw add 2147487744 = u := by unfold subw; omega
  have h4 : tailN 2147487744 [⟨0, 17, 0, add⟩] [] zN 2147487744 17 add 0 add = if farN u 21 then (14, zN) else (0, stN zN 4096 (setJ 0 u) 4) := by
    unfold tailN
    rw [if_neg (show ¬ ((17 : Int) = 3) by decide), if_neg (show ¬ ((17 : Int) = 1) by decide), if_neg (show ¬ ((17 : Int) = 16) by decide), if_pos rfl, h3, fin_at]
  unfold applyN
  rw [h1, h2, h4]
  cases farN u 21 <;> rfl
theorem ld_at (x : Nat) (hx : x < 4294967296) : ldN (stN zN 4096 x 4) 2147487744 = (x, 0) := by
  unfold ldN
  rw [if_pos (by decide)]
  exact congrArg (·, 0) (leN_same zN 4096 x hx)
theorem zN_lt : ∀ i, zN i < 256 := fun _ => Nat.lt_of_lt_of_le (show (0:Nat) < 1 by decide) (by decide)
/-- a way of 32 bits -/
theorem way_u (x : Int) (h1 : -2147483648 ≤ x) (h2 : x ≤ 2147483647) : ∃ u : Nat, u < 4294967296 ∧ x % 4294967296 = (u : Int) ∧ s32 u = x ∧ (u % 2 = 0 ↔ x.tmod 2 = 0) := by
  refine ⟨(x % 4294967296).toNat, by omega, by omega, ?_, ?_⟩
  · unfold s32; split <;> omega
  · have := Int.tmod_def x 2
    have h3 := Int.lt_tmod_of_pos x (show (0:Int) < 2 by decide)
    have h4 := Int.tmod_lt_of_pos x (show (0:Int) < 2 by decide)
    constructor
    · intro h; omega
    · intro h; omega
end Go.Proofs.L
