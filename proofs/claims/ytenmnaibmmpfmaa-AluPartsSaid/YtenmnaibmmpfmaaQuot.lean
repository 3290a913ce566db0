/- Proved here: lemmas and contracts (Quot) for the laws of this seat, for all values of the stated types; no further condition. -/
import Derived.Test.YtenmnaibmmpfmaaOpsAll
open Go Go.RowKit Go.Lib
namespace Go.Proofs.L
theorem name19 (w : World) : Calls Try.prog 21 #[.int .i64 19] w fun e w' => e = .returned (.string ⟨#[97, 100, 100]⟩) ∧ Below w.heap.size w w' := name_in 19 (by omega) (by omega) w
theorem name20 (w : World) : Calls Try.prog 21 #[.int .i64 20] w fun e w' => e = .returned (.string ⟨#[115, 108, 116]⟩) ∧ Below w.heap.size w w' := name_in 20 (by omega) (by omega) w
theorem name21 (w : World) : Calls Try.prog 21 #[.int .i64 21] w fun e w' => e = .returned (.string ⟨#[115, 108, 116, 117]⟩) ∧ Below w.heap.size w w' := name_in 21 (by omega) (by omega) w
theorem name22 (w : World) : Calls Try.prog 21 #[.int .i64 22] w fun e w' => e = .returned (.string ⟨#[120, 111, 114]⟩) ∧ Below w.heap.size w w' := name_in 22 (by omega) (by omega) w
theorem name23 (w : World) : Calls Try.prog 21 #[.int .i64 23] w fun e w' => e = .returned (.string ⟨#[111, 114]⟩) ∧ Below w.heap.size w w' := name_in 23 (by omega) (by omega) w
theorem name24 (w : World) : Calls Try.prog 21 #[.int .i64 24] w fun e w' => e = .returned (.string ⟨#[97, 110, 100]⟩) ∧ Below w.heap.size w w' := name_in 24 (by omega) (by omega) w
theorem name25 (w : World) : Calls Try.prog 21 #[.int .i64 25] w fun e w' => e = .returned (.string ⟨#[115, 108, 108]⟩) ∧ Below w.heap.size w w' := name_in 25 (by omega) (by omega) w
theorem name26 (w : World) : Calls Try.prog 21 #[.int .i64 26] w fun e w' => e = .returned (.string ⟨#[115, 114, 108]⟩) ∧ Below w.heap.size w w' := name_in 26 (by omega) (by omega) w
theorem name27 (w : World) : Calls Try.prog 21 #[.int .i64 27] w fun e w' => e = .returned (.string ⟨#[115, 114, 97]⟩) ∧ Below w.heap.size w w' := name_in 27 (by omega) (by omega) w
theorem name28 (w : World) : Calls Try.prog 21 #[.int .i64 28] w fun e w' => e = .returned (.string ⟨#[97, 100, 100]⟩) ∧ Below w.heap.size w w' := name_in 28 (by omega) (by omega) w
theorem name29 (w : World) : Calls Try.prog 21 #[.int .i64 29] w fun e w' => e = .returned (.string ⟨#[115, 117, 98]⟩) ∧ Below w.heap.size w w' := name_in 29 (by omega) (by omega) w
theorem name30 (w : World) : Calls Try.prog 21 #[.int .i64 30] w fun e w' => e = .returned (.string ⟨#[115, 108, 108]⟩) ∧ Below w.heap.size w w' := name_in 30 (by omega) (by omega) w
theorem name31 (w : World) : Calls Try.prog 21 #[.int .i64 31] w fun e w' => e = .returned (.string ⟨#[115, 108, 116]⟩) ∧ Below w.heap.size w w' := name_in 31 (by omega) (by omega) w
theorem name32 (w : World) : Calls Try.prog 21 #[.int .i64 32] w fun e w' => e = .returned (.string ⟨#[115, 108, 116, 117]⟩) ∧ Below w.heap.size w w' := name_in 32 (by omega) (by omega) w
theorem name33 (w : World) : Calls Try.prog 21 #[.int .i64 33] w fun e w' => e = .returned (.string ⟨#[120, 111, 114]⟩) ∧ Below w.heap.size w w' := name_in 33 (by omega) (by omega) w
theorem name34 (w : World) : Calls Try.prog 21 #[.int .i64 34] w fun e w' => e = .returned (.string ⟨#[115, 114, 108]⟩) ∧ Below w.heap.size w w' := name_in 34 (by omega) (by omega) w
theorem name35 (w : World) : Calls Try.prog 21 #[.int .i64 35] w fun e w' => e = .returned (.string ⟨#[115, 114, 97]⟩) ∧ Below w.heap.size w w' := name_in 35 (by omega) (by omega) w
theorem name36 (w : World) : Calls Try.prog 21 #[.int .i64 36] w fun e w' => e = .returned (.string ⟨#[111, 114]⟩) ∧ Below w.heap.size w w' := name_in 36 (by omega) (by omega) w
theorem name37 (w : World) : Calls Try.prog 21 #[.int .i64 37] w fun e w' => e = .returned (.string ⟨#[97, 110, 100]⟩) ∧ Below w.heap.size w w' := name_in 37 (by omega) (by omega) w
theorem name38 (w : World) : Calls Try.prog 21 #[.int .i64 38] w fun e w' => e = .returned (.string ⟨#[109, 117, 108]⟩) ∧ Below w.heap.size w w' := name_in 38 (by omega) (by omega) w
theorem name39 (w : World) : Calls Try.prog 21 #[.int .i64 39] w fun e w' => e = .returned (.string ⟨#[109, 117, 108, 104]⟩) ∧ Below w.heap.size w w' := name_in 39 (by omega) (by omega) w
theorem name40 (w : World) : Calls Try.prog 21 #[.int .i64 40] w fun e w' => e = .returned (.string ⟨#[109, 117, 108, 104, 115, 117]⟩) ∧ Below w.heap.size w w' := name_in 40 (by omega) (by omega) w
theorem name41 (w : World) : Calls Try.prog 21 #[.int .i64 41] w fun e w' => e = .returned (.string ⟨#[109, 117, 108, 104, 117]⟩) ∧ Below w.heap.size w w' := name_in 41 (by omega) (by omega) w
theorem name42 (w : World) : Calls Try.prog 21 #[.int .i64 42] w fun e w' => e = .returned (.string ⟨#[100, 105, 118]⟩) ∧ Below w.heap.size w w' := name_in 42 (by omega) (by omega) w
theorem name43 (w : World) : Calls Try.prog 21 #[.int .i64 43] w fun e w' => e = .returned (.string ⟨#[100, 105, 118, 117]⟩) ∧ Below w.heap.size w w' := name_in 43 (by omega) (by omega) w
theorem name44 (w : World) : Calls Try.prog 21 #[.int .i64 44] w fun e w' => e = .returned (.string ⟨#[114, 101, 109]⟩) ∧ Below w.heap.size w w' := name_in 44 (by omega) (by omega) w
theorem name45 (w : World) : Calls Try.prog 21 #[.int .i64 45] w fun e w' => e = .returned (.string ⟨#[114, 101, 109, 117]⟩) ∧ Below w.heap.size w w' := name_in 45 (by omega) (by omega) w
theorem sign_sg (x : Nat) (h : x < 4294967296) (w : World) : Calls Try.prog 24 #[.int .i64 x] w fun e w' => e = .returned (.int .i64 (sg x)) ∧ w' = w := sign_any x h w
theorem tdiv_bd (x y : Int) (h1 : -2147483648 ≤ x) (h2 : x < 4294967296) : -4294967296 ≤ x.tdiv y ∧ x.tdiv y ≤ 4294967296 := by
  have h : (x.tdiv y).natAbs ≤ x.natAbs := by rw [Int.natAbs_tdiv]; exact Nat.div_le_self _ _
  omega
theorem tmod_eq (x y : Int) : x - x.tdiv y * y = x.tmod y := by
  have := Int.tmod_def x y
  rw [this, Int.mul_comm]
theorem pow_facts (b : Nat) : ∃ (n p q : Nat), n = b % 32 ∧ p = 2 ^ n ∧ 1 ≤ p ∧ p ≤ 2147483648 ∧ 2 ≤ q ∧ q ≤ 4294967296 ∧ p * q = 4294967296 ∧ (2 : Int) ^ (b % 32) = (p : Int) ∧ Int.tdiv 4294967296 (p : Int) = (q : Int) := by
  have hn : b % 32 < 32 := Nat.mod_lt _ (by decide)
  have h1 : 2 ^ (b % 32) ≤ 2 ^ 31 := Nat.pow_le_pow_right (by decide) (by omega)
  have h2 : 2 ^ 1 ≤ 2 ^ (32 - b % 32) := Nat.pow_le_pow_right (by decide) (by omega)
  have h3 : 2 ^ (32 - b % 32) ≤ 2 ^ 32 := Nat.pow_le_pow_right (by decide) (by omega)
  have h4 : 2 ^ (b % 32) * 2 ^ (32 - b % 32) = 4294967296 := by
    rw [← Nat.pow_add, show b % 32 + (32 - b % 32) = 32 by omega]
  have h0 : 0 < 2 ^ (b % 32) := Nat.pow_pos (by decide)
  refine ⟨b % 32, 2 ^ (b % 32), 2 ^ (32 - b % 32), rfl, rfl, h0, h1, h2, h3, h4, by push_cast; rfl, ?_⟩
  generalize 2 ^ (b % 32) = p at *
  generalize 2 ^ (32 - b % 32) = q at *
  rw [Int.tdiv_eq_ediv_of_nonneg (by omega)]
  exact Int.ediv_eq_of_eq_mul_left (by omega) (by rw [← Int.natCast_mul, Nat.mul_comm, h4]; rfl)
theorem sll_law (a p q : Nat) (h : p * q = 4294967296) : (a : Int) % (q : Int) * (p : Int) = (a : Int) * (p : Int) % 4294967296 := by
  have h2 : a % q * p = a * p % 4294967296 := by rw [← h, Nat.mul_comm p q, Nat.mul_mod_mul_right]
  have h3 : ((a % q * p : Nat) : Int) = ((a * p % 4294967296 : Nat) : Int) := by rw [h2]
  rw [Int.natCast_mul, Int.natCast_emod, Int.natCast_emod, Int.natCast_mul] at h3
  exact h3
theorem mul_law (a b : Nat) : ((a : Int) * ((b : Int) % 65536) + (a : Int) * ((b : Int) / 65536) % 4294967296 * 65536) % 4294967296 = (a : Int) * b % 4294967296 := by
  have h : (a : Int) * b = (a : Int) * ((b : Int) % 65536) + (a : Int) * ((b : Int) / 65536) * 65536 := by
    rw [Int.mul_assoc, ← Int.mul_add]
    congr 1; omega
  rw [h]
  generalize (a : Int) * ((b : Int) % 65536) = u
  generalize (a : Int) * ((b : Int) / 65536) = v
  omega
theorem high_law (x y : Int) : highN x y = x * y / 4294967296 % 4294967296 := by
  unfold highN
  have h : x * y = x * (y / 65536) * 65536 + x * (y - 65536 * (y / 65536)) := by
    rw [Int.mul_assoc, ← Int.mul_add]
    congr 1; omega
  rw [h]
  generalize x * (y / 65536) = u
  generalize x * (y - 65536 * (y / 65536)) = v
  omega
theorem ret_k {a b : Int} {x : Bool} (h : a = b) : Ending.returned (.tuple #[.int .i64 a, .bool x]) = .returned (.tuple #[.int .i64 b, .bool x]) := by rw [h]
set_option maxHeartbeats 1600000 in
theorem quot42 (a b : Nat) (ha : a < 4294967296) (hb : b < 4294967296) (w : World) : Calls Try.prog 28 #[.string ⟨#[100, 105, 118]⟩, .int .i64 a, .int .i64 b] w fun e w' => e = .returned (.tuple #[.int .i64 (vI 42 a b), .bool true]) ∧ w' = w := by
  have x1 := sg_bd a ha
  have y1 := sg_bd b hb
  obtain ⟨x, hx⟩ : ∃ x, x = sg a := ⟨_, rfl⟩
  obtain ⟨y, hy⟩ : ∃ y, y = sg b := ⟨_, rfl⟩
  have hyz := sg_zero b hb
  rw [← hx] at x1
  rw [← hy] at y1 hyz
  have HX := Lib.hid hx
  have HY := Lib.hid hy
  obtain ⟨x1, x2⟩ := x1
  obtain ⟨y1, y2⟩ := y1
  clear hx hy
  by_cases hz : b = 0
  · have HZ := Lib.hid hz
    have hz1 : ((b : Int) == 0) = true := by simpa using hz
    clear hz hyz
    go_enter Try.func28, Try.ntmps28
    go_wp2_with fail
    refine (sign_sg a ha _).mono ?_
    rw [← HX.out]
    rintro e w1 ⟨rfl, rfl⟩
    go_wp2_with fail
    refine (sign_sg b hb _).mono ?_
    rw [← HY.out]
    rintro e w1 ⟨rfl, rfl⟩
    go_wp2
    go_ret2
    exact ⟨ret_k (by rw [show vI 42 a b = (if b = 0 then 4294967295 else ((sg a).tdiv (sg b)) % 4294967296) from rfl, if_pos HZ.out]), rfl⟩
  · have HZ := Lib.hid hz
    have hz1 : ((b : Int) == 0) = false := by simpa using hz
    have hz2 : ¬ y = 0 := fun e => hz (hyz.1 e)
    have hd := tdiv_bd x y (by omega) (by omega)
    have hd0 : wrap64 (x.tdiv y) = x.tdiv y := IntWalk.wrap64_in _ (by omega)
    have hd1 : IntKind.i64.wrap (x.tdiv y) = x.tdiv y := IntWalk.i64_in _ (by omega)
    clear hz hyz
    go_enter Try.func28, Try.ntmps28
    go_wp2_with fail
    refine (sign_sg a ha _).mono ?_
    rw [← HX.out]
    rintro e w1 ⟨rfl, rfl⟩
    go_wp2_with fail
    refine (sign_sg b hb _).mono ?_
    rw [← HY.out]
    rintro e w1 ⟨rfl, rfl⟩
    go_wp2_with fail
    refine (low_any _ (by omega) (by omega) _).mono ?_
    rintro e w1 ⟨rfl, rfl⟩
    go_wp2
    go_ret2
    exact ⟨ret_k (by rw [show vI 42 a b = (if b = 0 then 4294967295 else ((sg a).tdiv (sg b)) % 4294967296) from rfl, if_neg HZ.out]; rw [← HX.out, ← HY.out]), rfl⟩
set_option maxHeartbeats 1600000 in
theorem quot43 (a b : Nat) (ha : a < 4294967296) (hb : b < 4294967296) (w : World) : Calls Try.prog 28 #[.string ⟨#[100, 105, 118, 117]⟩, .int .i64 a, .int .i64 b] w fun e w' => e = .returned (.tuple #[.int .i64 (vI 43 a b), .bool true]) ∧ w' = w := by
  by_cases hz : b = 0
  · have HZ := Lib.hid hz
    have hz1 : ((b : Int) == 0) = true := by simpa using hz
    clear hz
    go_enter Try.func28, Try.ntmps28
    go_wp2
    go_ret2
    exact ⟨ret_k (by rw [show vI 43 a b = (if b = 0 then 4294967295 else (a : Int) / b) from rfl, if_pos HZ.out]), rfl⟩
  · have HZ := Lib.hid hz
    have hz1 : ((b : Int) == 0) = false := by simpa using hz
    have hz2 : ¬ (b : Int) = 0 := by omega
    have hd1 := Int.ediv_nonneg (a := (a : Int)) (b := b) (by omega) (by omega)
    have hd2 := Int.ediv_le_self (a := (a : Int)) b (by omega)
    have hd0 : wrap64 ((a : Int) / b) = (a : Int) / b := IntWalk.wrap64_in _ (by omega)
    have hd1 : IntKind.i64.wrap ((a : Int) / b) = (a : Int) / b := IntWalk.i64_in _ (by omega)
    clear hz
    go_enter Try.func28, Try.ntmps28
    go_wp2_with fail
    refine (low_any _ (by omega) (by omega) _).mono ?_
    rintro e w1 ⟨rfl, rfl⟩
    go_wp2
    go_ret2
    exact ⟨ret_k (by rw [show vI 43 a b = (if b = 0 then 4294967295 else (a : Int) / b) from rfl, if_neg HZ.out]; omega), rfl⟩
set_option maxHeartbeats 1600000 in
theorem quot44 (a b : Nat) (ha : a < 4294967296) (hb : b < 4294967296) (w : World) : Calls Try.prog 28 #[.string ⟨#[114, 101, 109]⟩, .int .i64 a, .int .i64 b] w fun e w' => e = .returned (.tuple #[.int .i64 (vI 44 a b), .bool true]) ∧ w' = w := by
  have x1 := sg_bd a ha
  have y1 := sg_bd b hb
  obtain ⟨x, hx⟩ : ∃ x, x = sg a := ⟨_, rfl⟩
  obtain ⟨y, hy⟩ : ∃ y, y = sg b := ⟨_, rfl⟩
  have hyz := sg_zero b hb
  rw [← hx] at x1
  rw [← hy] at y1 hyz
  have HX := Lib.hid hx
  have HY := Lib.hid hy
  obtain ⟨x1, x2⟩ := x1
  obtain ⟨y1, y2⟩ := y1
  clear hx hy
  by_cases hz : b = 0
  · have HZ := Lib.hid hz
    have hz1 : ((b : Int) == 0) = true := by simpa using hz
    clear hz hyz
    go_enter Try.func28, Try.ntmps28
    go_wp2_with fail
    refine (sign_sg a ha _).mono ?_
    rw [← HX.out]
    rintro e w1 ⟨rfl, rfl⟩
    go_wp2_with fail
    refine (sign_sg b hb _).mono ?_
    rw [← HY.out]
    rintro e w1 ⟨rfl, rfl⟩
    go_wp2
    go_ret2
    exact ⟨ret_k (by rw [show vI 44 a b = (if b = 0 then (a : Int) else ((sg a).tmod (sg b)) % 4294967296) from rfl, if_pos HZ.out]), rfl⟩
  · have HZ := Lib.hid hz
    have hz1 : ((b : Int) == 0) = false := by simpa using hz
    have hz2 : ¬ y = 0 := fun e => hz (hyz.1 e)
    have hd := tdiv_bd x y (by omega) (by omega)
    have hd0 : wrap64 (x.tdiv y) = x.tdiv y := IntWalk.wrap64_in _ (by omega)
    have hd1 : IntKind.i64.wrap (x.tdiv y) = x.tdiv y := IntWalk.i64_in _ (by omega)
    have hm := tmod_eq x y
    have hmb := Int.natAbs_tmod x y
    have hmc := Nat.mod_le x.natAbs y.natAbs
    have hp : -8589934592 ≤ x.tdiv y * y ∧ x.tdiv y * y ≤ 8589934592 := by omega
    have hp1 : IntKind.i64.wrap (x.tdiv y * y) = x.tdiv y * y := IntWalk.i64_in _ (by omega)
    have hp2 : IntKind.i64.wrap (x - x.tdiv y * y) = x.tmod y := by rw [hm]; exact IntWalk.i64_in _ (by omega)
    have hp3 : -4294967296 ≤ x.tmod y ∧ x.tmod y ≤ 4294967296 := by omega
    clear hm hmb hmc
    clear hz hyz
    go_enter Try.func28, Try.ntmps28
    go_wp2_with fail
    refine (sign_sg a ha _).mono ?_
    rw [← HX.out]
    rintro e w1 ⟨rfl, rfl⟩
    go_wp2_with fail
    refine (sign_sg b hb _).mono ?_
    rw [← HY.out]
    rintro e w1 ⟨rfl, rfl⟩
    go_wp2_with fail
    refine (low_any _ (by omega) (by omega) _).mono ?_
    rintro e w1 ⟨rfl, rfl⟩
    go_wp2
    go_ret2
    exact ⟨ret_k (by rw [show vI 44 a b = (if b = 0 then (a : Int) else ((sg a).tmod (sg b)) % 4294967296) from rfl, if_neg HZ.out]; rw [← HX.out, ← HY.out]), rfl⟩
set_option maxHeartbeats 1600000 in
theorem quot45 (a b : Nat) (ha : a < 4294967296) (hb : b < 4294967296) (w : World) : Calls Try.prog 28 #[.string ⟨#[114, 101, 109, 117]⟩, .int .i64 a, .int .i64 b] w fun e w' => e = .returned (.tuple #[.int .i64 (vI 45 a b), .bool true]) ∧ w' = w := by
  by_cases hz : b = 0
  · have HZ := Lib.hid hz
    have hz1 : ((b : Int) == 0) = true := by simpa using hz
    clear hz
    go_enter Try.func28, Try.ntmps28
    go_wp2
    go_ret2
    exact ⟨ret_k (by rw [show vI 45 a b = (if b = 0 then (a : Int) else (a : Int) % b) from rfl, if_pos HZ.out]), rfl⟩
  · have HZ := Lib.hid hz
    have hz1 : ((b : Int) == 0) = false := by simpa using hz
    have hz2 : ¬ (b : Int) = 0 := by omega
    have hd1 := Int.ediv_nonneg (a := (a : Int)) (b := b) (by omega) (by omega)
    have hd2 := Int.ediv_le_self (a := (a : Int)) b (by omega)
    have hd0 : wrap64 ((a : Int) / b) = (a : Int) / b := IntWalk.wrap64_in _ (by omega)
    have hd1 : IntKind.i64.wrap ((a : Int) / b) = (a : Int) / b := IntWalk.i64_in _ (by omega)
    have hm : (a : Int) - (a : Int) / b * b = (a : Int) % b := by rw [Int.emod_def, Int.mul_comm]
    have hmb := Int.emod_nonneg (a : Int) hz2
    have hmc := Int.emod_lt_of_pos (a : Int) (b := b) (by omega)
    have hp : -8589934592 ≤ (a : Int) / b * (b : Int) ∧ (a : Int) / b * (b : Int) ≤ 8589934592 := by omega
    have hp1 : IntKind.i64.wrap ((a : Int) / b * (b : Int)) = (a : Int) / b * (b : Int) := IntWalk.i64_in _ (by omega)
    have hp2 : IntKind.i64.wrap ((a : Int) - (a : Int) / b * (b : Int)) = (a : Int) % b := by rw [hm]; exact IntWalk.i64_in _ (by omega)
    have hp3 : -4294967296 ≤ (a : Int) % b ∧ (a : Int) % b ≤ 4294967296 := by omega
    clear hm
    clear hz
    go_enter Try.func28, Try.ntmps28
    go_wp2_with fail
    refine (low_any _ (by omega) (by omega) _).mono ?_
    rintro e w1 ⟨rfl, rfl⟩
    go_wp2
    go_ret2
    exact ⟨ret_k (by rw [show vI 45 a b = (if b = 0 then (a : Int) else (a : Int) % b) from rfl, if_neg HZ.out]; omega), rfl⟩
end Go.Proofs.L
