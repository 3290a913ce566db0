/- Proved here: lemmas and contracts (P7) for the laws of this seat, for all values of the stated types; no further condition. -/
import Derived.Test.YtikbkhhgbkpijaaP4
open Go Go.RowKit Go.Lib
namespace Go.Proofs.L
set_option maxRecDepth 100000 in
set_option maxHeartbeats 1600000 in
theorem get_nil (a n : Nat) (w : World) : Calls Try.prog 12 #[.pointer none, .int .u32 (a : Int), .int .u32 (n : Int)] w fun e w' => e = .returned (.tuple #[.slice none 0 0, .int .i64 18]) ∧ w' = w := by
  go_enter Try.func12, Try.ntmps12
  go_wp2_with fail
  refine (has_nil a n w).mono ?_
  rintro e w1 ⟨rfl, rfl⟩
  go_wp2
  go_ret2
  exact ⟨rfl, rfl⟩
set_option maxRecDepth 100000 in
set_option maxHeartbeats 1600000 in
theorem load4_nil (a : Nat) (w : World) : Calls Try.prog 10 #[.pointer none, .int .u32 (a : Int), .int .i64 4] w fun e w' => e = .returned (.tuple #[.int .u32 0, .int .i64 18]) ∧ w' = w := by
  have hu : IntKind.u32.wrap 4 = 4 := rfl
  go_enter Try.func10, Try.ntmps10
  go_wp2_with fail
  refine (has_nil a 4 w).mono ?_
  rintro e w1 ⟨rfl, rfl⟩
  go_wp2
  go_ret2
  exact ⟨rfl, rfl⟩
set_option maxRecDepth 100000 in
set_option maxHeartbeats 1600000 in
theorem store4_nil (a x : Nat) (w : World) : Calls Try.prog 9 #[.pointer none, .int .u32 (a : Int), .int .i64 4, .int .u32 (x : Int)] w fun e w' => e = .returned (.int .i64 18) ∧ w' = w := by
  have hu : IntKind.u32.wrap 4 = 4 := rfl
  go_enter Try.func9, Try.ntmps9
  go_wp2_with fail
  refine (has_nil a 4 w).mono ?_
  rintro e w1 ⟨rfl, rfl⟩
  go_wp2
  go_ret
  exact ⟨rfl, rfl⟩
set_option maxRecDepth 100000 in
set_option maxHeartbeats 1600000 in
theorem put_nil (a : Nat) (p : Option Addr) (len cap : Nat) (hl : len ≤ 100000) (w : World) : Calls Try.prog 14 #[.pointer none, .int .u32 (a : Int), .slice p len cap] w fun e w' => e = .returned (.int .i64 18) ∧ w' = w := by
  have h1 : IntKind.u64.wrap (len : Int) = len := u64_id (by omega) (by omega)
  have h2 : IntKind.u32.wrap (len : Int) = len := u32_id (by omega)
  have hh := has_nil a len w
  go_enter Try.func14, Try.ntmps14
  by_cases hg : 65536 < len
  · have hd : decide ((len : Int) > 65536) = true := by rw [decide_eq_true_eq]; omega
    have hd2 : decide (65536 < (len : Int)) = true := by rw [decide_eq_true_eq]; omega
    go_wp2
    go_ret
    exact ⟨rfl, rfl⟩
  · have hd : decide ((len : Int) > 65536) = false := by rw [decide_eq_false_iff_not]; omega
    have hd2 : decide (65536 < (len : Int)) = false := by rw [decide_eq_false_iff_not]; omega
    go_wp2_with fail
    refine hh.mono ?_
    rintro e w1 ⟨rfl, rfl⟩
    go_wp2
    go_ret
    exact ⟨rfl, rfl⟩
set_option maxRecDepth 100000 in
set_option maxHeartbeats 1600000 in
theorem copy_nil (w : World) : Calls Try.prog 18 #[.pointer none] w fun e w' => e = .returned (.pointer none) ∧ w' = w := by
  go_enter Try.func18, Try.ntmps18
  go_wp2
  go_ret
  exact ⟨rfl, rfl⟩
set_option maxRecDepth 100000 in
set_option maxHeartbeats 3200000 in
theorem none_walk (a n : Nat) (p : Option Addr) (len cap : Nat) (w : World) : Calls Try.prog 5 #[.int .u32 (a : Int), .int .u32 (n : Int), .slice p len cap] w fun e w' => e = .returned (.bool true) ∧ Below w.heap.size w w' := by
  go_enter Try.func5, Try.ntmps5
  go_wp2_with fail
  refine (fit_ok w).mono ?_
  rintro e w1 ⟨rfl, hB⟩
  by_cases hl : len ≤ 100000
  · have hd : decide ((len : Int) > 100000) = false := by rw [decide_eq_false_iff_not]; omega
    have hd2 : decide (100000 < (len : Int)) = false := by rw [decide_eq_false_iff_not]; omega
    have HL := Lib.hid hl
    clear hl
    go_wp2_with fail
    refine (get_nil a n w1).mono ?_
    rintro e w2 ⟨rfl, rfl⟩
    go_wp2_with fail
    refine (load4_nil a _).mono ?_
    rintro e w3 ⟨rfl, rfl⟩
    go_wp2_with fail
    refine (has_nil a n _).mono ?_
    rintro e w4 ⟨rfl, rfl⟩
    go_wp2_with fail
    refine (put_nil a p len cap HL.out _).mono ?_
    rintro e w5 ⟨rfl, rfl⟩
    go_wp2_with fail
    refine (store4_nil a n _).mono ?_
    rintro e w6 ⟨rfl, rfl⟩
    go_wp2_with fail
    refine (copy_nil _).mono ?_
    rintro e w7 ⟨rfl, rfl⟩
    go_wp2
    go_ret
    exact ⟨rfl, hB⟩
  · have hd : decide ((len : Int) > 100000) = true := by rw [decide_eq_true_eq]; omega
    have hd2 : decide (100000 < (len : Int)) = true := by rw [decide_eq_true_eq]; omega
    go_wp2
    go_ret
    exact ⟨rfl, hB⟩
end Go.Proofs.L
