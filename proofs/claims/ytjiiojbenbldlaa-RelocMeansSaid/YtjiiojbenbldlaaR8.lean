/- Proved here: lemmas and contracts (R8) for the laws of this seat, for all values of the stated types; no further condition. -/
import Derived.Test.YtjiiojbenbldlaaR6
open Go Go.RowKit Go.Lib
namespace Go.Proofs.L
theorem i64b (a : Nat) (h : a < 18446744073709551616) : (BitVec.ofInt 64 (a : Int)).toNat = a := by
  rw [BitVec.ofInt_natCast, BitVec.toNat_ofNat]; exact Nat.mod_eq_of_lt h
theorem and64 (a n : Nat) (ha : a < 4294967296) (hn : n < 33) : bits .and .i64 (a : Int) ((2 ^ n - 1 : Nat) : Int) = ((a % 2 ^ n : Nat) : Int) := by
  have hp : 2 ^ n ≤ 2 ^ 32 := Nat.pow_le_pow_right (by decide) (by omega)
  show IntKind.i64.wrap ((BitVec.ofInt 64 (a : Int) &&& BitVec.ofInt 64 ((2 ^ n - 1 : Nat) : Int)).toNat : Int) = _
  have h32 : (2 : Nat) ^ 32 = 4294967296 := by decide
  rw [BitVec.toNat_and, i64b a (by omega), i64b _ (by omega), Nat.and_two_pow_sub_one_eq_mod]
  have := Nat.mod_le a (2 ^ n)
  generalize a % 2 ^ n = m at *
  have e : IntKind.i64.wrap (m : Int) = wrap64 (m : Int) := by simp [IntKind.wrap, IntKind.bits, IntKind.signed, wrap64]; split <;> omega
  rw [e, IntWalk.wrap64_in _ ⟨by omega, by omega⟩]
theorem bits_31_20 (x : Nat) (hx : x < 4294967296) (w : World) : Calls Try.prog 29 #[.int .i64 (x : Int), .int .i64 31, .int .i64 20] w fun e w' => e = .returned (.int .i64 ((x / 1048576 % 4096 : Nat) : Int)) ∧ Chg [] w w' := by
  have e := and64 (x / 1048576) 12 (by omega) (by decide)
  have e1 : bits .and .i64 ((x : Int) / 1048576) 4095 = ((x / 1048576 % 4096 : Nat) : Int) := by rw [Int.natCast_ediv] at e; exact e
  obtain ⟨y, hy⟩ : ∃ y, y = x / 1048576 % 4096 := ⟨_, rfl⟩
  rw [← hy] at e1 ⊢
  clear e hy
  go_enter Try.func29, Try.ntmps29
  go_wp2_with fail
  go_quiet (fail)
  go_wp2
  go_ret
  exact ⟨rfl, (Chg.refl _ _).drewN _⟩
theorem bits_31_25 (x : Nat) (hx : x < 4294967296) (w : World) : Calls Try.prog 29 #[.int .i64 (x : Int), .int .i64 31, .int .i64 25] w fun e w' => e = .returned (.int .i64 ((x / 33554432 % 128 : Nat) : Int)) ∧ Chg [] w w' := by
  have e := and64 (x / 33554432) 7 (by omega) (by decide)
  have e1 : bits .and .i64 ((x : Int) / 33554432) 127 = ((x / 33554432 % 128 : Nat) : Int) := by rw [Int.natCast_ediv] at e; exact e
  obtain ⟨y, hy⟩ : ∃ y, y = x / 33554432 % 128 := ⟨_, rfl⟩
  rw [← hy] at e1 ⊢
  clear e hy
  go_enter Try.func29, Try.ntmps29
  go_wp2_with fail
  go_quiet (fail)
  go_wp2
  go_ret
  exact ⟨rfl, (Chg.refl _ _).drewN _⟩
theorem bits_11_7 (x : Nat) (hx : x < 4294967296) (w : World) : Calls Try.prog 29 #[.int .i64 (x : Int), .int .i64 11, .int .i64 7] w fun e w' => e = .returned (.int .i64 ((x / 128 % 32 : Nat) : Int)) ∧ Chg [] w w' := by
  have e := and64 (x / 128) 5 (by omega) (by decide)
  have e1 : bits .and .i64 ((x : Int) / 128) 31 = ((x / 128 % 32 : Nat) : Int) := by rw [Int.natCast_ediv] at e; exact e
  obtain ⟨y, hy⟩ : ∃ y, y = x / 128 % 32 := ⟨_, rfl⟩
  rw [← hy] at e1 ⊢
  clear e hy
  go_enter Try.func29, Try.ntmps29
  go_wp2_with fail
  go_quiet (fail)
  go_wp2
  go_ret
  exact ⟨rfl, (Chg.refl _ _).drewN _⟩
theorem bits_31_31 (x : Nat) (hx : x < 4294967296) (w : World) : Calls Try.prog 29 #[.int .i64 (x : Int), .int .i64 31, .int .i64 31] w fun e w' => e = .returned (.int .i64 ((x / 2147483648 % 2 : Nat) : Int)) ∧ Chg [] w w' := by
  have e := and64 (x / 2147483648) 1 (by omega) (by decide)
  have e1 : bits .and .i64 ((x : Int) / 2147483648) 1 = ((x / 2147483648 % 2 : Nat) : Int) := by rw [Int.natCast_ediv] at e; exact e
  obtain ⟨y, hy⟩ : ∃ y, y = x / 2147483648 % 2 := ⟨_, rfl⟩
  rw [← hy] at e1 ⊢
  clear e hy
  go_enter Try.func29, Try.ntmps29
  go_wp2_with fail
  go_quiet (fail)
  go_wp2
  go_ret
  exact ⟨rfl, (Chg.refl _ _).drewN _⟩
theorem bits_7_7 (x : Nat) (hx : x < 4294967296) (w : World) : Calls Try.prog 29 #[.int .i64 (x : Int), .int .i64 7, .int .i64 7] w fun e w' => e = .returned (.int .i64 ((x / 128 % 2 : Nat) : Int)) ∧ Chg [] w w' := by
  have e := and64 (x / 128) 1 (by omega) (by decide)
  have e1 : bits .and .i64 ((x : Int) / 128) 1 = ((x / 128 % 2 : Nat) : Int) := by rw [Int.natCast_ediv] at e; exact e
  obtain ⟨y, hy⟩ : ∃ y, y = x / 128 % 2 := ⟨_, rfl⟩
  rw [← hy] at e1 ⊢
  clear e hy
  go_enter Try.func29, Try.ntmps29
  go_wp2_with fail
  go_quiet (fail)
  go_wp2
  go_ret
  exact ⟨rfl, (Chg.refl _ _).drewN _⟩
theorem bits_30_25 (x : Nat) (hx : x < 4294967296) (w : World) : Calls Try.prog 29 #[.int .i64 (x : Int), .int .i64 30, .int .i64 25] w fun e w' => e = .returned (.int .i64 ((x / 33554432 % 64 : Nat) : Int)) ∧ Chg [] w w' := by
  have e := and64 (x / 33554432) 6 (by omega) (by decide)
  have e1 : bits .and .i64 ((x : Int) / 33554432) 63 = ((x / 33554432 % 64 : Nat) : Int) := by rw [Int.natCast_ediv] at e; exact e
  obtain ⟨y, hy⟩ : ∃ y, y = x / 33554432 % 64 := ⟨_, rfl⟩
  rw [← hy] at e1 ⊢
  clear e hy
  go_enter Try.func29, Try.ntmps29
  go_wp2_with fail
  go_quiet (fail)
  go_wp2
  go_ret
  exact ⟨rfl, (Chg.refl _ _).drewN _⟩
theorem bits_11_8 (x : Nat) (hx : x < 4294967296) (w : World) : Calls Try.prog 29 #[.int .i64 (x : Int), .int .i64 11, .int .i64 8] w fun e w' => e = .returned (.int .i64 ((x / 256 % 16 : Nat) : Int)) ∧ Chg [] w w' := by
  have e := and64 (x / 256) 4 (by omega) (by decide)
  have e1 : bits .and .i64 ((x : Int) / 256) 15 = ((x / 256 % 16 : Nat) : Int) := by rw [Int.natCast_ediv] at e; exact e
  obtain ⟨y, hy⟩ : ∃ y, y = x / 256 % 16 := ⟨_, rfl⟩
  rw [← hy] at e1 ⊢
  clear e hy
  go_enter Try.func29, Try.ntmps29
  go_wp2_with fail
  go_quiet (fail)
  go_wp2
  go_ret
  exact ⟨rfl, (Chg.refl _ _).drewN _⟩
theorem bits_19_12 (x : Nat) (hx : x < 4294967296) (w : World) : Calls Try.prog 29 #[.int .i64 (x : Int), .int .i64 19, .int .i64 12] w fun e w' => e = .returned (.int .i64 ((x / 4096 % 256 : Nat) : Int)) ∧ Chg [] w w' := by
  have e := and64 (x / 4096) 8 (by omega) (by decide)
  have e1 : bits .and .i64 ((x : Int) / 4096) 255 = ((x / 4096 % 256 : Nat) : Int) := by rw [Int.natCast_ediv] at e; exact e
  obtain ⟨y, hy⟩ : ∃ y, y = x / 4096 % 256 := ⟨_, rfl⟩
  rw [← hy] at e1 ⊢
  clear e hy
  go_enter Try.func29, Try.ntmps29
  go_wp2_with fail
  go_quiet (fail)
  go_wp2
  go_ret
  exact ⟨rfl, (Chg.refl _ _).drewN _⟩
theorem bits_20_20 (x : Nat) (hx : x < 4294967296) (w : World) : Calls Try.prog 29 #[.int .i64 (x : Int), .int .i64 20, .int .i64 20] w fun e w' => e = .returned (.int .i64 ((x / 1048576 % 2 : Nat) : Int)) ∧ Chg [] w w' := by
  have e := and64 (x / 1048576) 1 (by omega) (by decide)
  have e1 : bits .and .i64 ((x : Int) / 1048576) 1 = ((x / 1048576 % 2 : Nat) : Int) := by rw [Int.natCast_ediv] at e; exact e
  obtain ⟨y, hy⟩ : ∃ y, y = x / 1048576 % 2 := ⟨_, rfl⟩
  rw [← hy] at e1 ⊢
  clear e hy
  go_enter Try.func29, Try.ntmps29
  go_wp2_with fail
  go_quiet (fail)
  go_wp2
  go_ret
  exact ⟨rfl, (Chg.refl _ _).drewN _⟩
theorem bits_30_21 (x : Nat) (hx : x < 4294967296) (w : World) : Calls Try.prog 29 #[.int .i64 (x : Int), .int .i64 30, .int .i64 21] w fun e w' => e = .returned (.int .i64 ((x / 2097152 % 1024 : Nat) : Int)) ∧ Chg [] w w' := by
  have e := and64 (x / 2097152) 10 (by omega) (by decide)
  have e1 : bits .and .i64 ((x : Int) / 2097152) 1023 = ((x / 2097152 % 1024 : Nat) : Int) := by rw [Int.natCast_ediv] at e; exact e
  obtain ⟨y, hy⟩ : ∃ y, y = x / 2097152 % 1024 := ⟨_, rfl⟩
  rw [← hy] at e1 ⊢
  clear e hy
  go_enter Try.func29, Try.ntmps29
  go_wp2_with fail
  go_quiet (fail)
  go_wp2
  go_ret
  exact ⟨rfl, (Chg.refl _ _).drewN _⟩
theorem bits_24_20 (x : Nat) (hx : x < 4294967296) (w : World) : Calls Try.prog 29 #[.int .i64 (x : Int), .int .i64 24, .int .i64 20] w fun e w' => e = .returned (.int .i64 ((x / 1048576 % 32 : Nat) : Int)) ∧ Chg [] w w' := by
  have e := and64 (x / 1048576) 5 (by omega) (by decide)
  have e1 : bits .and .i64 ((x : Int) / 1048576) 31 = ((x / 1048576 % 32 : Nat) : Int) := by rw [Int.natCast_ediv] at e; exact e
  obtain ⟨y, hy⟩ : ∃ y, y = x / 1048576 % 32 := ⟨_, rfl⟩
  rw [← hy] at e1 ⊢
  clear e hy
  go_enter Try.func29, Try.ntmps29
  go_wp2_with fail
  go_quiet (fail)
  go_wp2
  go_ret
  exact ⟨rfl, (Chg.refl _ _).drewN _⟩
theorem bits_19_15 (x : Nat) (hx : x < 4294967296) (w : World) : Calls Try.prog 29 #[.int .i64 (x : Int), .int .i64 19, .int .i64 15] w fun e w' => e = .returned (.int .i64 ((x / 32768 % 32 : Nat) : Int)) ∧ Chg [] w w' := by
  have e := and64 (x / 32768) 5 (by omega) (by decide)
  have e1 : bits .and .i64 ((x : Int) / 32768) 31 = ((x / 32768 % 32 : Nat) : Int) := by rw [Int.natCast_ediv] at e; exact e
  obtain ⟨y, hy⟩ : ∃ y, y = x / 32768 % 32 := ⟨_, rfl⟩
  rw [← hy] at e1 ⊢
  clear e hy
  go_enter Try.func29, Try.ntmps29
  go_wp2_with fail
  go_quiet (fail)
  go_wp2
  go_ret
  exact ⟨rfl, (Chg.refl _ _).drewN _⟩
end Go.Proofs.L

open Go Go.RowKit Go.Lib
namespace Go.Proofs.L
/-- a number of n bits with its sign -/
def sgn (n x : Nat) : Int := if x / 2 ^ (n - 1) = 1 then (x : Int) - 2 ^ n else x
theorem sign_12 (x : Nat) (hx : x < 4096) (w : World) : Calls Try.prog 28 #[.int .i64 (x : Int), .int .i64 12] w fun e w' => e = .returned (.int .i64 (sgn 12 x)) ∧ w' = w := by
  have hg : sgn 12 x = if x / 2048 = 1 then (x : Int) - 4096 else x := rfl
  obtain ⟨K, hK⟩ : ∃ K, K = sgn 12 x := ⟨_, rfl⟩
  rw [← hK] at hg ⊢
  have HG := Lib.hid hg
  clear hg hK
  by_cases h : x / 2048 = 1
  · have e : (x : Int) / 2048 = 1 := by omega
    have e2 : wrap64 ((x : Int) - 4096) = (x : Int) - 4096 := IntWalk.wrap64_in _ ⟨by omega, by omega⟩
    have HH := Lib.hid h
    clear h
    go_enter Try.func28, Try.ntmps28
    go_wp2
    go_ret
    exact ⟨by rw [HG.out, if_pos HH.out]; rfl, rfl⟩
  · have e : ((x : Int) / 2048 == 1) = false := by rw [beq_eq_false_iff_ne]; omega
    have e2 : ((x : Int) / 2048 = 1) = False := by simp; omega
    have HH := Lib.hid h
    clear h
    go_enter Try.func28, Try.ntmps28
    go_wp2
    go_ret
    exact ⟨by rw [HG.out, if_neg HH.out]; rfl, rfl⟩
theorem sign_13 (x : Nat) (hx : x < 8192) (w : World) : Calls Try.prog 28 #[.int .i64 (x : Int), .int .i64 13] w fun e w' => e = .returned (.int .i64 (sgn 13 x)) ∧ w' = w := by
  have hg : sgn 13 x = if x / 4096 = 1 then (x : Int) - 8192 else x := rfl
  obtain ⟨K, hK⟩ : ∃ K, K = sgn 13 x := ⟨_, rfl⟩
  rw [← hK] at hg ⊢
  have HG := Lib.hid hg
  clear hg hK
  by_cases h : x / 4096 = 1
  · have e : (x : Int) / 4096 = 1 := by omega
    have e2 : wrap64 ((x : Int) - 8192) = (x : Int) - 8192 := IntWalk.wrap64_in _ ⟨by omega, by omega⟩
    have HH := Lib.hid h
    clear h
    go_enter Try.func28, Try.ntmps28
    go_wp2
    go_ret
    exact ⟨by rw [HG.out, if_pos HH.out]; rfl, rfl⟩
  · have e : ((x : Int) / 4096 == 1) = false := by rw [beq_eq_false_iff_ne]; omega
    have e2 : ((x : Int) / 4096 = 1) = False := by simp; omega
    have HH := Lib.hid h
    clear h
    go_enter Try.func28, Try.ntmps28
    go_wp2
    go_ret
    exact ⟨by rw [HG.out, if_neg HH.out]; rfl, rfl⟩
theorem sign_21 (x : Nat) (hx : x < 2097152) (w : World) : Calls Try.prog 28 #[.int .i64 (x : Int), .int .i64 21] w fun e w' => e = .returned (.int .i64 (sgn 21 x)) ∧ w' = w := by
  have hg : sgn 21 x = if x / 1048576 = 1 then (x : Int) - 2097152 else x := rfl
  obtain ⟨K, hK⟩ : ∃ K, K = sgn 21 x := ⟨_, rfl⟩
  rw [← hK] at hg ⊢
  have HG := Lib.hid hg
  clear hg hK
  by_cases h : x / 1048576 = 1
  · have e : (x : Int) / 1048576 = 1 := by omega
    have e2 : wrap64 ((x : Int) - 2097152) = (x : Int) - 2097152 := IntWalk.wrap64_in _ ⟨by omega, by omega⟩
    have HH := Lib.hid h
    clear h
    go_enter Try.func28, Try.ntmps28
    go_wp2
    go_ret
    exact ⟨by rw [HG.out, if_pos HH.out]; rfl, rfl⟩
  · have e : ((x : Int) / 1048576 == 1) = false := by rw [beq_eq_false_iff_ne]; omega
    have e2 : ((x : Int) / 1048576 = 1) = False := by simp; omega
    have HH := Lib.hid h
    clear h
    go_enter Try.func28, Try.ntmps28
    go_wp2
    go_ret
    exact ⟨by rw [HG.out, if_neg HH.out]; rfl, rfl⟩
theorem sign_32 (x : Nat) (hx : x < 4294967296) (w : World) : Calls Try.prog 28 #[.int .i64 (x : Int), .int .i64 32] w fun e w' => e = .returned (.int .i64 (sgn 32 x)) ∧ w' = w := by
  have hg : sgn 32 x = if x / 2147483648 = 1 then (x : Int) - 4294967296 else x := rfl
  obtain ⟨K, hK⟩ : ∃ K, K = sgn 32 x := ⟨_, rfl⟩
  rw [← hK] at hg ⊢
  have HG := Lib.hid hg
  clear hg hK
  by_cases h : x / 2147483648 = 1
  · have e : (x : Int) / 2147483648 = 1 := by omega
    have e2 : wrap64 ((x : Int) - 4294967296) = (x : Int) - 4294967296 := IntWalk.wrap64_in _ ⟨by omega, by omega⟩
    have HH := Lib.hid h
    clear h
    go_enter Try.func28, Try.ntmps28
    go_wp2
    go_ret
    exact ⟨by rw [HG.out, if_pos HH.out]; rfl, rfl⟩
  · have e : ((x : Int) / 2147483648 == 1) = false := by rw [beq_eq_false_iff_ne]; omega
    have e2 : ((x : Int) / 2147483648 = 1) = False := by simp; omega
    have HH := Lib.hid h
    clear h
    go_enter Try.func28, Try.ntmps28
    go_wp2
    go_ret
    exact ⟨by rw [HG.out, if_neg HH.out]; rfl, rfl⟩
end Go.Proofs.L
