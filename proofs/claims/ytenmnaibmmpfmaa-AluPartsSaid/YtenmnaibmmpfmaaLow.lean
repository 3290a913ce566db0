/- Proved here: lemmas and contracts (Low) for the laws of this seat, for all values of the stated types; no further condition. -/
import Derived.Test.YtenmnaibmmpfmaaProg
import Derived.Test.YtenmnaibmmpfmaaRow
import Derived.KernelRfl
import Derived.Lib.Hide
open Go Go.RowKit Go.Lib
namespace Go.Proofs.L
theorem ret_i {k : IntKind} {a b : Int} (h : a = b) : Ending.returned (.int k a) = .returned (.int k b) := by rw [h]
theorem mul_bd {a b : Int} (A B : Nat) (h1 : -(A : Int) ≤ a) (h2 : a ≤ A) (h3 : -(B : Int) ≤ b) (h4 : b ≤ B) : -((A * B : Nat) : Int) ≤ a * b ∧ a * b ≤ ((A * B : Nat) : Int) := by
  have h : (a * b).natAbs ≤ A * B := by
    rw [Int.natAbs_mul]
    exact Nat.mul_le_mul (by omega) (by omega)
  omega
theorem low_any (x : Int) (_h1 : -4611686018427387904 ≤ x) (_h2 : x ≤ 4611686018427387904) (w : World) :
    Calls Try.prog 22 #[.int .i64 x] w fun e w' => e = .returned (.int .i64 (x % 4294967296)) ∧ w' = w := by
  have b1 : -4294967296 < x.tmod 4294967296 ∧ x.tmod 4294967296 < 4294967296 := by
    rw [Int.tmod_eq_emod]; split <;> omega
  have e1 : (x.tmod 4294967296 + 4294967296) % 4294967296 = x % 4294967296 := by
    rw [Int.add_emod_right, Int.tmod_eq_emod]
    split
    · simp
    · simp
  go_enter Try.func22, Try.ntmps22
  go_wp2
  go_ret
  exact ⟨ret_i e1, rfl⟩
theorem sign_any (x : Nat) (h : x < 4294967296) (w : World) :
    Calls Try.prog 24 #[.int .i64 x] w fun e w' => e = .returned (.int .i64 (if x < 2147483648 then (x : Int) else (x : Int) - 4294967296)) ∧ w' = w := by
  by_cases hx : x < 2147483648
  · have hd : decide ((x : Int) ≥ 2147483648) = false := by simp; omega
    go_enter Try.func24, Try.ntmps24
    go_wp2
    go_ret
    exact ⟨rfl, rfl⟩
  · have hd : decide ((x : Int) ≥ 2147483648) = true := by simp; omega
    go_enter Try.func24, Try.ntmps24
    go_wp2
    go_ret
    exact ⟨rfl, rfl⟩
theorem floor_any (x y : Int) (h1 : -4611686018427387904 ≤ x) (h2 : x ≤ 4611686018427387904) (hy : 0 < y) (hy2 : y ≤ 4294967296) (w : World) :
    Calls Try.prog 23 #[.int .i64 x, .int .i64 y] w fun e w' => e = .returned (.int .i64 (x / y)) ∧ w' = w := by
  have hq : x.tdiv y = x / y ∨ (x.tdiv y = x / y + 1 ∧ ¬ x.tmod y = 0 ∧ x < 0) := by
    rw [Int.tdiv_eq_ediv, Int.tmod_eq_emod]
    by_cases hd : y ∣ x
    · left; simp [hd]
    · by_cases hx : 0 ≤ x
      · left; simp [hx]
      · right
        have hne : x % y ≠ 0 := fun e => hd (Int.dvd_of_emod_eq_zero e)
        have hlt := Int.emod_lt_of_pos x hy
        have hs : y.sign = 1 := Int.sign_eq_one_of_pos hy
        simp [hx, hd, hs]
        omega
  have hq2 : 0 ≤ x → x.tdiv y = x / y := fun h => Int.tdiv_eq_ediv_of_nonneg h
  have hq3 : x.tmod y = 0 → x.tdiv y = x / y := fun h => by
    rcases hq with h1 | ⟨_, h2, _⟩
    · exact h1
    · exact absurd h h2
  have hq4 : ¬ x.tmod y = 0 → x < 0 → x.tdiv y = x / y + 1 := fun h hx => by
    rw [Int.tdiv_eq_ediv]
    have hnd : ¬ y ∣ x := fun hd => h (by obtain ⟨c, rfl⟩ := hd; simp)
    simp [hnd, Int.sign_eq_one_of_pos hy]; omega
  have H2 := Lib.hid hq2
  have H3 := Lib.hid hq3
  have H4 := Lib.hid hq4
  have hd1 : decide (y < 0) = false := by simp; omega
  have b1 : -4611686018427387904 ≤ x / y := by
    exact Int.le_ediv_of_mul_le hy (by omega)
  have b2 : x / y < 4611686018427387905 := Int.ediv_lt_of_lt_mul hy (by omega)
  clear hq hq2 hq3 hq4
  go_enter Try.func23, Try.ntmps23
  by_cases hx : x < 0
  · have hd2 : decide (x < 0) = true := by simpa using hx
    by_cases hm : x.tmod y = 0
    · have hm2 : (x.tmod y != 0) = false := by simpa using hm
      go_wp2
      go_ret
      exact ⟨ret_i (H3.out hm), rfl⟩
    · have hm2 : (x.tmod y != 0) = true := by simpa using hm
      have hw : wrap64 (x.tdiv y - 1) = x / y := by rw [H4.out hm hx, IntWalk.wrap64_in _ (by omega)]; omega
      go_wp2
      go_ret
      exact ⟨ret_i hw, rfl⟩
  · have hd2 : decide (x < 0) = false := by simpa using hx
    by_cases hm : x.tmod y = 0
    · have hm2 : (x.tmod y != 0) = false := by simpa using hm
      go_wp2
      go_ret
      exact ⟨rfl, rfl⟩
    · have hm2 : (x.tmod y != 0) = true := by simpa using hm
      go_wp2
      all_goals
        go_ret
        exact ⟨rfl, rfl⟩
theorem truth_any (b : Bool) (w : World) : Calls Try.prog 25 #[.bool b] w fun e w' => e = .returned (.int .i64 (if b then 1 else 0)) ∧ w' = w := by
  cases b
  · go_enter Try.func25, Try.ntmps25
    go_wp2
    go_ret
    exact ⟨rfl, rfl⟩
  · go_enter Try.func25, Try.ntmps25
    go_wp2
    go_ret
    exact ⟨rfl, rfl⟩
theorem truth32_any (b : Bool) (w : World) : Calls Try.prog 19 #[.bool b] w fun e w' => e = .returned (.int .u32 (if b then 1 else 0)) ∧ w' = w := by
  cases b
  · go_enter Try.func19, Try.ntmps19
    go_wp2
    go_ret
    exact ⟨rfl, rfl⟩
  · go_enter Try.func19, Try.ntmps19
    go_wp2
    go_ret
    exact ⟨rfl, rfl⟩
/-- the high half of a product, as the reference reckons it -/
def highN (a b : Int) : Int := ((a * (b / 65536) + a * (b - 65536 * (b / 65536)) / 65536) / 65536) % 4294967296
set_option maxHeartbeats 800000 in
theorem high_any (a b : Int) (h1 : -2147483648 ≤ a) (h2 : a < 4294967296) (h3 : -2147483648 ≤ b) (h4 : b < 4294967296) (w : World) :
    Calls Try.prog 27 #[.int .i64 a, .int .i64 b] w fun e w' => e = .returned (.int .i64 (highN a b)) ∧ w' = w := by
  obtain ⟨h, hh⟩ : ∃ h, h = b / 65536 := ⟨_, rfl⟩
  obtain ⟨l, hl⟩ : ∃ l, l = b - 65536 * h := ⟨_, rfl⟩
  have c1 : -32768 ≤ h ∧ h < 65536 := by omega
  have c2 : 0 ≤ l ∧ l < 65536 := by omega
  have HH := Lib.hid hh
  have HL := Lib.hid hl
  have e0 : b - 65536 * h = l := hl.symm
  have e2 : IntKind.i64.wrap (b - 65536 * h) = l := by rw [e0]; exact IntWalk.i64_in _ (by omega)
  have e3 : IntKind.i64.wrap (65536 * h) = 65536 * h := IntWalk.i64_in _ (by omega)
  have m1 : -4294967296 * 65536 ≤ a * h ∧ a * h ≤ 4294967296 * 65536 := by have := mul_bd 4294967296 65536 (a := a) (b := h) (by omega) (by omega) (by omega) (by omega); omega
  have m2 : -4294967296 * 65536 ≤ a * l ∧ a * l ≤ 4294967296 * 65536 := by have := mul_bd 4294967296 65536 (a := a) (b := l) (by omega) (by omega) (by omega) (by omega); omega
  have e4 : IntKind.i64.wrap (a * h) = a * h := IntWalk.i64_in _ (by omega)
  have e5 : IntKind.i64.wrap (a * l) = a * l := IntWalk.i64_in _ (by omega)
  have e6 : IntKind.i64.wrap (a * h + a * l / 65536) = a * h + a * l / 65536 := IntWalk.i64_in _ (by omega)
  have m3 : -4294967296 * 65537 ≤ a * h + a * l / 65536 ∧ a * h + a * l / 65536 ≤ 4294967296 * 65537 := by omega
  obtain ⟨p, hp⟩ : ∃ p, p = a * h := ⟨_, rfl⟩
  obtain ⟨q, hq⟩ : ∃ q, q = a * l := ⟨_, rfl⟩
  have HP := Lib.hid hp
  have HQ := Lib.hid hq
  have HX := Lib.hid hh.symm
  clear hh hl hp hq e0
  go_enter Try.func27, Try.ntmps27
  go_wp2_with fail
  refine (floor_any b 65536 (by omega) (by omega) (by omega) (by omega) _).mono ?_
  rw [HX.out]
  rintro e w1 ⟨rfl, rfl⟩
  go_wp2_with fail
  refine (floor_any b 65536 (by omega) (by omega) (by omega) (by omega) _).mono ?_
  rw [HX.out]
  rintro e w1 ⟨rfl, rfl⟩
  go_wp2_with fail
  refine (floor_any (a * l) 65536 (by omega) (by omega) (by omega) (by omega) _).mono ?_
  rintro e w1 ⟨rfl, rfl⟩
  go_wp2_with fail
  refine (floor_any (a * h + a * l / 65536) 65536 (by omega) (by omega) (by omega) (by omega) _).mono ?_
  rintro e w1 ⟨rfl, rfl⟩
  go_wp2_with fail
  refine (low_any ((a * h + a * l / 65536) / 65536) (by omega) (by omega) _).mono ?_
  rintro e w1 ⟨rfl, rfl⟩
  go_wp2
  go_ret
  refine ⟨ret_i ?_, rfl⟩
  rw [highN, HX.out, ← HL.out]
end Go.Proofs.L
