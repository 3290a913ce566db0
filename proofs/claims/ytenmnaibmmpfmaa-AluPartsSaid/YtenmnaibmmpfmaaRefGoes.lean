/- Proved here: lemmas and contracts (RefGoes) for the laws of this seat, for all values of the stated types; no further condition. -/
import Derived.Test.YtenmnaibmmpfmaaGoes
open Go Go.RowKit Go.Lib
namespace Go.Proofs.L
theorem nameT1 (w : World) : Calls Try.prog 21 #[.int .i64 1] w fun e w' => e = .returned (.string ⟨#[108, 117, 105]⟩) ∧ Below w.heap.size w w' := name_in 1 (by omega) (by omega) w
theorem nameT2 (w : World) : Calls Try.prog 21 #[.int .i64 2] w fun e w' => e = .returned (.string ⟨#[97, 117, 105, 112, 99]⟩) ∧ Below w.heap.size w w' := name_in 2 (by omega) (by omega) w
theorem nameT3 (w : World) : Calls Try.prog 21 #[.int .i64 3] w fun e w' => e = .returned (.string ⟨#[106, 97, 108]⟩) ∧ Below w.heap.size w w' := name_in 3 (by omega) (by omega) w
theorem nameT4 (w : World) : Calls Try.prog 21 #[.int .i64 4] w fun e w' => e = .returned (.string ⟨#[106, 97, 108, 114]⟩) ∧ Below w.heap.size w w' := name_in 4 (by omega) (by omega) w
theorem nameT5 (w : World) : Calls Try.prog 21 #[.int .i64 5] w fun e w' => e = .returned (.string ⟨#[98, 101, 113]⟩) ∧ Below w.heap.size w w' := name_in 5 (by omega) (by omega) w
theorem nameT6 (w : World) : Calls Try.prog 21 #[.int .i64 6] w fun e w' => e = .returned (.string ⟨#[98, 110, 101]⟩) ∧ Below w.heap.size w w' := name_in 6 (by omega) (by omega) w
theorem nameT7 (w : World) : Calls Try.prog 21 #[.int .i64 7] w fun e w' => e = .returned (.string ⟨#[98, 108, 116]⟩) ∧ Below w.heap.size w w' := name_in 7 (by omega) (by omega) w
theorem nameT8 (w : World) : Calls Try.prog 21 #[.int .i64 8] w fun e w' => e = .returned (.string ⟨#[98, 103, 101]⟩) ∧ Below w.heap.size w w' := name_in 8 (by omega) (by omega) w
theorem nameT9 (w : World) : Calls Try.prog 21 #[.int .i64 9] w fun e w' => e = .returned (.string ⟨#[98, 108, 116, 117]⟩) ∧ Below w.heap.size w w' := name_in 9 (by omega) (by omega) w
theorem nameT10 (w : World) : Calls Try.prog 21 #[.int .i64 10] w fun e w' => e = .returned (.string ⟨#[98, 103, 101, 117]⟩) ∧ Below w.heap.size w w' := name_in 10 (by omega) (by omega) w
theorem nameT11 (w : World) : Calls Try.prog 21 #[.int .i64 11] w fun e w' => e = .returned (.string ⟨#[108, 98]⟩) ∧ Below w.heap.size w w' := name_in 11 (by omega) (by omega) w
theorem nameT12 (w : World) : Calls Try.prog 21 #[.int .i64 12] w fun e w' => e = .returned (.string ⟨#[108, 104]⟩) ∧ Below w.heap.size w w' := name_in 12 (by omega) (by omega) w
theorem nameT13 (w : World) : Calls Try.prog 21 #[.int .i64 13] w fun e w' => e = .returned (.string ⟨#[108, 119]⟩) ∧ Below w.heap.size w w' := name_in 13 (by omega) (by omega) w
theorem nameT14 (w : World) : Calls Try.prog 21 #[.int .i64 14] w fun e w' => e = .returned (.string ⟨#[108, 98, 117]⟩) ∧ Below w.heap.size w w' := name_in 14 (by omega) (by omega) w
theorem nameT15 (w : World) : Calls Try.prog 21 #[.int .i64 15] w fun e w' => e = .returned (.string ⟨#[108, 104, 117]⟩) ∧ Below w.heap.size w w' := name_in 15 (by omega) (by omega) w
theorem nameT16 (w : World) : Calls Try.prog 21 #[.int .i64 16] w fun e w' => e = .returned (.string ⟨#[115, 98]⟩) ∧ Below w.heap.size w w' := name_in 16 (by omega) (by omega) w
theorem nameT17 (w : World) : Calls Try.prog 21 #[.int .i64 17] w fun e w' => e = .returned (.string ⟨#[115, 104]⟩) ∧ Below w.heap.size w w' := name_in 17 (by omega) (by omega) w
theorem nameT18 (w : World) : Calls Try.prog 21 #[.int .i64 18] w fun e w' => e = .returned (.string ⟨#[115, 119]⟩) ∧ Below w.heap.size w w' := name_in 18 (by omega) (by omega) w
theorem nameT19 (w : World) : Calls Try.prog 21 #[.int .i64 19] w fun e w' => e = .returned (.string ⟨#[97, 100, 100]⟩) ∧ Below w.heap.size w w' := name_in 19 (by omega) (by omega) w
theorem nameT20 (w : World) : Calls Try.prog 21 #[.int .i64 20] w fun e w' => e = .returned (.string ⟨#[115, 108, 116]⟩) ∧ Below w.heap.size w w' := name_in 20 (by omega) (by omega) w
theorem nameT21 (w : World) : Calls Try.prog 21 #[.int .i64 21] w fun e w' => e = .returned (.string ⟨#[115, 108, 116, 117]⟩) ∧ Below w.heap.size w w' := name_in 21 (by omega) (by omega) w
theorem nameT22 (w : World) : Calls Try.prog 21 #[.int .i64 22] w fun e w' => e = .returned (.string ⟨#[120, 111, 114]⟩) ∧ Below w.heap.size w w' := name_in 22 (by omega) (by omega) w
theorem nameT23 (w : World) : Calls Try.prog 21 #[.int .i64 23] w fun e w' => e = .returned (.string ⟨#[111, 114]⟩) ∧ Below w.heap.size w w' := name_in 23 (by omega) (by omega) w
theorem nameT24 (w : World) : Calls Try.prog 21 #[.int .i64 24] w fun e w' => e = .returned (.string ⟨#[97, 110, 100]⟩) ∧ Below w.heap.size w w' := name_in 24 (by omega) (by omega) w
theorem nameT25 (w : World) : Calls Try.prog 21 #[.int .i64 25] w fun e w' => e = .returned (.string ⟨#[115, 108, 108]⟩) ∧ Below w.heap.size w w' := name_in 25 (by omega) (by omega) w
theorem nameT26 (w : World) : Calls Try.prog 21 #[.int .i64 26] w fun e w' => e = .returned (.string ⟨#[115, 114, 108]⟩) ∧ Below w.heap.size w w' := name_in 26 (by omega) (by omega) w
theorem nameT27 (w : World) : Calls Try.prog 21 #[.int .i64 27] w fun e w' => e = .returned (.string ⟨#[115, 114, 97]⟩) ∧ Below w.heap.size w w' := name_in 27 (by omega) (by omega) w
theorem nameT28 (w : World) : Calls Try.prog 21 #[.int .i64 28] w fun e w' => e = .returned (.string ⟨#[97, 100, 100]⟩) ∧ Below w.heap.size w w' := name_in 28 (by omega) (by omega) w
theorem nameT29 (w : World) : Calls Try.prog 21 #[.int .i64 29] w fun e w' => e = .returned (.string ⟨#[115, 117, 98]⟩) ∧ Below w.heap.size w w' := name_in 29 (by omega) (by omega) w
theorem nameT30 (w : World) : Calls Try.prog 21 #[.int .i64 30] w fun e w' => e = .returned (.string ⟨#[115, 108, 108]⟩) ∧ Below w.heap.size w w' := name_in 30 (by omega) (by omega) w
theorem nameT31 (w : World) : Calls Try.prog 21 #[.int .i64 31] w fun e w' => e = .returned (.string ⟨#[115, 108, 116]⟩) ∧ Below w.heap.size w w' := name_in 31 (by omega) (by omega) w
theorem nameT32 (w : World) : Calls Try.prog 21 #[.int .i64 32] w fun e w' => e = .returned (.string ⟨#[115, 108, 116, 117]⟩) ∧ Below w.heap.size w w' := name_in 32 (by omega) (by omega) w
theorem nameT33 (w : World) : Calls Try.prog 21 #[.int .i64 33] w fun e w' => e = .returned (.string ⟨#[120, 111, 114]⟩) ∧ Below w.heap.size w w' := name_in 33 (by omega) (by omega) w
theorem nameT34 (w : World) : Calls Try.prog 21 #[.int .i64 34] w fun e w' => e = .returned (.string ⟨#[115, 114, 108]⟩) ∧ Below w.heap.size w w' := name_in 34 (by omega) (by omega) w
theorem nameT35 (w : World) : Calls Try.prog 21 #[.int .i64 35] w fun e w' => e = .returned (.string ⟨#[115, 114, 97]⟩) ∧ Below w.heap.size w w' := name_in 35 (by omega) (by omega) w
theorem nameT36 (w : World) : Calls Try.prog 21 #[.int .i64 36] w fun e w' => e = .returned (.string ⟨#[111, 114]⟩) ∧ Below w.heap.size w w' := name_in 36 (by omega) (by omega) w
theorem nameT37 (w : World) : Calls Try.prog 21 #[.int .i64 37] w fun e w' => e = .returned (.string ⟨#[97, 110, 100]⟩) ∧ Below w.heap.size w w' := name_in 37 (by omega) (by omega) w
theorem nameT38 (w : World) : Calls Try.prog 21 #[.int .i64 38] w fun e w' => e = .returned (.string ⟨#[109, 117, 108]⟩) ∧ Below w.heap.size w w' := name_in 38 (by omega) (by omega) w
theorem nameT39 (w : World) : Calls Try.prog 21 #[.int .i64 39] w fun e w' => e = .returned (.string ⟨#[109, 117, 108, 104]⟩) ∧ Below w.heap.size w w' := name_in 39 (by omega) (by omega) w
theorem nameT40 (w : World) : Calls Try.prog 21 #[.int .i64 40] w fun e w' => e = .returned (.string ⟨#[109, 117, 108, 104, 115, 117]⟩) ∧ Below w.heap.size w w' := name_in 40 (by omega) (by omega) w
theorem nameT41 (w : World) : Calls Try.prog 21 #[.int .i64 41] w fun e w' => e = .returned (.string ⟨#[109, 117, 108, 104, 117]⟩) ∧ Below w.heap.size w w' := name_in 41 (by omega) (by omega) w
theorem nameT42 (w : World) : Calls Try.prog 21 #[.int .i64 42] w fun e w' => e = .returned (.string ⟨#[100, 105, 118]⟩) ∧ Below w.heap.size w w' := name_in 42 (by omega) (by omega) w
theorem nameT43 (w : World) : Calls Try.prog 21 #[.int .i64 43] w fun e w' => e = .returned (.string ⟨#[100, 105, 118, 117]⟩) ∧ Below w.heap.size w w' := name_in 43 (by omega) (by omega) w
theorem nameT44 (w : World) : Calls Try.prog 21 #[.int .i64 44] w fun e w' => e = .returned (.string ⟨#[114, 101, 109]⟩) ∧ Below w.heap.size w w' := name_in 44 (by omega) (by omega) w
theorem nameT45 (w : World) : Calls Try.prog 21 #[.int .i64 45] w fun e w' => e = .returned (.string ⟨#[114, 101, 109, 117]⟩) ∧ Below w.heap.size w w' := name_in 45 (by omega) (by omega) w
theorem rgoes1 (a b : Nat) (w : World) : Calls Try.prog 12 #[.int .i64 1, .int .i64 a, .int .i64 b] w fun e w' => e = .returned (.tuple #[.bool (gB 1 a b), .bool (gIs 1)]) ∧ Below w.heap.size w w' := by
  go_enter Try.func12, Try.ntmps12
  go_wp2_with fail
  refine (nameT1 _).mono ?_
  rintro e w1 ⟨rfl, hB⟩
  go_wp2
  go_ret2
  exact ⟨rfl, hB⟩
theorem rwidth1 (w : World) : Calls Try.prog 14 #[.int .i64 1] w fun e w' => e = .returned (.int .i64 (wd 1)) ∧ Below w.heap.size w w' := by
  go_enter Try.func14, Try.ntmps14
  go_wp2_with fail
  refine (nameT1 _).mono ?_
  rintro e w1 ⟨rfl, hB⟩
  go_wp2
  go_ret
  exact ⟨rfl, hB⟩
theorem rwiden1 (x : Nat) (_hx : x < 4294967296) (w : World) : Calls Try.prog 16 #[.int .i64 1, .int .i64 x] w fun e w' => e = .returned (.int .i64 (we 1 x)) ∧ Below w.heap.size w w' := by
  go_enter Try.func16, Try.ntmps16
  go_wp2_with fail
  refine (nameT1 _).mono ?_
  rintro e w1 ⟨rfl, hB⟩
  go_wp2
  go_ret
  exact ⟨rfl, hB⟩
theorem rgoes2 (a b : Nat) (w : World) : Calls Try.prog 12 #[.int .i64 2, .int .i64 a, .int .i64 b] w fun e w' => e = .returned (.tuple #[.bool (gB 2 a b), .bool (gIs 2)]) ∧ Below w.heap.size w w' := by
  go_enter Try.func12, Try.ntmps12
  go_wp2_with fail
  refine (nameT2 _).mono ?_
  rintro e w1 ⟨rfl, hB⟩
  go_wp2
  go_ret2
  exact ⟨rfl, hB⟩
theorem rwidth2 (w : World) : Calls Try.prog 14 #[.int .i64 2] w fun e w' => e = .returned (.int .i64 (wd 2)) ∧ Below w.heap.size w w' := by
  go_enter Try.func14, Try.ntmps14
  go_wp2_with fail
  refine (nameT2 _).mono ?_
  rintro e w1 ⟨rfl, hB⟩
  go_wp2
  go_ret
  exact ⟨rfl, hB⟩
theorem rwiden2 (x : Nat) (_hx : x < 4294967296) (w : World) : Calls Try.prog 16 #[.int .i64 2, .int .i64 x] w fun e w' => e = .returned (.int .i64 (we 2 x)) ∧ Below w.heap.size w w' := by
  go_enter Try.func16, Try.ntmps16
  go_wp2_with fail
  refine (nameT2 _).mono ?_
  rintro e w1 ⟨rfl, hB⟩
  go_wp2
  go_ret
  exact ⟨rfl, hB⟩
theorem rgoes3 (a b : Nat) (w : World) : Calls Try.prog 12 #[.int .i64 3, .int .i64 a, .int .i64 b] w fun e w' => e = .returned (.tuple #[.bool (gB 3 a b), .bool (gIs 3)]) ∧ Below w.heap.size w w' := by
  go_enter Try.func12, Try.ntmps12
  go_wp2_with fail
  refine (nameT3 _).mono ?_
  rintro e w1 ⟨rfl, hB⟩
  go_wp2
  go_ret2
  exact ⟨rfl, hB⟩
theorem rwidth3 (w : World) : Calls Try.prog 14 #[.int .i64 3] w fun e w' => e = .returned (.int .i64 (wd 3)) ∧ Below w.heap.size w w' := by
  go_enter Try.func14, Try.ntmps14
  go_wp2_with fail
  refine (nameT3 _).mono ?_
  rintro e w1 ⟨rfl, hB⟩
  go_wp2
  go_ret
  exact ⟨rfl, hB⟩
theorem rwiden3 (x : Nat) (_hx : x < 4294967296) (w : World) : Calls Try.prog 16 #[.int .i64 3, .int .i64 x] w fun e w' => e = .returned (.int .i64 (we 3 x)) ∧ Below w.heap.size w w' := by
  go_enter Try.func16, Try.ntmps16
  go_wp2_with fail
  refine (nameT3 _).mono ?_
  rintro e w1 ⟨rfl, hB⟩
  go_wp2
  go_ret
  exact ⟨rfl, hB⟩
theorem rgoes4 (a b : Nat) (w : World) : Calls Try.prog 12 #[.int .i64 4, .int .i64 a, .int .i64 b] w fun e w' => e = .returned (.tuple #[.bool (gB 4 a b), .bool (gIs 4)]) ∧ Below w.heap.size w w' := by
  go_enter Try.func12, Try.ntmps12
  go_wp2_with fail
  refine (nameT4 _).mono ?_
  rintro e w1 ⟨rfl, hB⟩
  go_wp2
  go_ret2
  exact ⟨rfl, hB⟩
theorem rwidth4 (w : World) : Calls Try.prog 14 #[.int .i64 4] w fun e w' => e = .returned (.int .i64 (wd 4)) ∧ Below w.heap.size w w' := by
  go_enter Try.func14, Try.ntmps14
  go_wp2_with fail
  refine (nameT4 _).mono ?_
  rintro e w1 ⟨rfl, hB⟩
  go_wp2
  go_ret
  exact ⟨rfl, hB⟩
theorem rwiden4 (x : Nat) (_hx : x < 4294967296) (w : World) : Calls Try.prog 16 #[.int .i64 4, .int .i64 x] w fun e w' => e = .returned (.int .i64 (we 4 x)) ∧ Below w.heap.size w w' := by
  go_enter Try.func16, Try.ntmps16
  go_wp2_with fail
  refine (nameT4 _).mono ?_
  rintro e w1 ⟨rfl, hB⟩
  go_wp2
  go_ret
  exact ⟨rfl, hB⟩
theorem rgoes5 (a b : Nat) (ha : a < 4294967296) (hb : b < 4294967296) (w : World) : Calls Try.prog 12 #[.int .i64 5, .int .i64 a, .int .i64 b] w fun e w' => e = .returned (.tuple #[.bool (gB 5 a b), .bool (gIs 5)]) ∧ Below w.heap.size w w' := by
  go_enter Try.func12, Try.ntmps12
  go_wp2_with fail
  refine (nameT5 _).mono ?_
  rintro e w1 ⟨rfl, hB⟩
  go_wp2
  go_ret2
  exact ⟨ret_b (by rw [show gB 5 a b = decide (a = b) from rfl, Bool.eq_iff_iff]; simp; omega) rfl, hB⟩
theorem rwidth5 (w : World) : Calls Try.prog 14 #[.int .i64 5] w fun e w' => e = .returned (.int .i64 (wd 5)) ∧ Below w.heap.size w w' := by
  go_enter Try.func14, Try.ntmps14
  go_wp2_with fail
  refine (nameT5 _).mono ?_
  rintro e w1 ⟨rfl, hB⟩
  go_wp2
  go_ret
  exact ⟨rfl, hB⟩
theorem rwiden5 (x : Nat) (_hx : x < 4294967296) (w : World) : Calls Try.prog 16 #[.int .i64 5, .int .i64 x] w fun e w' => e = .returned (.int .i64 (we 5 x)) ∧ Below w.heap.size w w' := by
  go_enter Try.func16, Try.ntmps16
  go_wp2_with fail
  refine (nameT5 _).mono ?_
  rintro e w1 ⟨rfl, hB⟩
  go_wp2
  go_ret
  exact ⟨rfl, hB⟩
theorem rgoes6 (a b : Nat) (ha : a < 4294967296) (hb : b < 4294967296) (w : World) : Calls Try.prog 12 #[.int .i64 6, .int .i64 a, .int .i64 b] w fun e w' => e = .returned (.tuple #[.bool (gB 6 a b), .bool (gIs 6)]) ∧ Below w.heap.size w w' := by
  go_enter Try.func12, Try.ntmps12
  go_wp2_with fail
  refine (nameT6 _).mono ?_
  rintro e w1 ⟨rfl, hB⟩
  go_wp2
  go_ret2
  exact ⟨ret_b (by rw [show gB 6 a b = decide (a ≠ b) from rfl, Bool.eq_iff_iff]; simp; omega) rfl, hB⟩
theorem rwidth6 (w : World) : Calls Try.prog 14 #[.int .i64 6] w fun e w' => e = .returned (.int .i64 (wd 6)) ∧ Below w.heap.size w w' := by
  go_enter Try.func14, Try.ntmps14
  go_wp2_with fail
  refine (nameT6 _).mono ?_
  rintro e w1 ⟨rfl, hB⟩
  go_wp2
  go_ret
  exact ⟨rfl, hB⟩
theorem rwiden6 (x : Nat) (_hx : x < 4294967296) (w : World) : Calls Try.prog 16 #[.int .i64 6, .int .i64 x] w fun e w' => e = .returned (.int .i64 (we 6 x)) ∧ Below w.heap.size w w' := by
  go_enter Try.func16, Try.ntmps16
  go_wp2_with fail
  refine (nameT6 _).mono ?_
  rintro e w1 ⟨rfl, hB⟩
  go_wp2
  go_ret
  exact ⟨rfl, hB⟩
theorem rgoes7 (a b : Nat) (ha : a < 4294967296) (hb : b < 4294967296) (w : World) : Calls Try.prog 12 #[.int .i64 7, .int .i64 a, .int .i64 b] w fun e w' => e = .returned (.tuple #[.bool (gB 7 a b), .bool (gIs 7)]) ∧ Below w.heap.size w w' := by
  have x1 := sg_bd a ha
  have y1 := sg_bd b hb
  have e1 := sg_wrap a ha
  have e1' := sg_wrapK a ha
  have f1 := sg_wrap b hb
  have f1' := sg_wrapK b hb
  obtain ⟨x, hx⟩ : ∃ x, x = sg a := ⟨_, rfl⟩
  obtain ⟨y, hy⟩ : ∃ y, y = sg b := ⟨_, rfl⟩
  rw [← hx] at x1 e1 e1'
  rw [← hy] at y1 f1 f1'
  have HX := Lib.hid hx
  have HY := Lib.hid hy
  obtain ⟨x1, x2⟩ := x1
  obtain ⟨y1, y2⟩ := y1
  clear hx hy
  go_enter Try.func12, Try.ntmps12
  go_wp2_with fail
  refine (nameT7 _).mono ?_
  rintro e w1 ⟨rfl, hB⟩
  go_wp2_with fail
  refine (sign_sg a ha _).mono ?_
  rw [← HX.out]
  rintro e w2 ⟨rfl, rfl⟩
  go_wp2_with fail
  refine (sign_sg b hb _).mono ?_
  rw [← HY.out]
  rintro e w2 ⟨rfl, rfl⟩
  go_wp2
  go_ret2
  exact ⟨ret_b (by rw [show gB 7 a b = decide (sg a < sg b) from rfl, ← HX.out, ← HY.out]) rfl, hB⟩
theorem rwidth7 (w : World) : Calls Try.prog 14 #[.int .i64 7] w fun e w' => e = .returned (.int .i64 (wd 7)) ∧ Below w.heap.size w w' := by
  go_enter Try.func14, Try.ntmps14
  go_wp2_with fail
  refine (nameT7 _).mono ?_
  rintro e w1 ⟨rfl, hB⟩
  go_wp2
  go_ret
  exact ⟨rfl, hB⟩
theorem rwiden7 (x : Nat) (_hx : x < 4294967296) (w : World) : Calls Try.prog 16 #[.int .i64 7, .int .i64 x] w fun e w' => e = .returned (.int .i64 (we 7 x)) ∧ Below w.heap.size w w' := by
  go_enter Try.func16, Try.ntmps16
  go_wp2_with fail
  refine (nameT7 _).mono ?_
  rintro e w1 ⟨rfl, hB⟩
  go_wp2
  go_ret
  exact ⟨rfl, hB⟩
theorem rgoes8 (a b : Nat) (ha : a < 4294967296) (hb : b < 4294967296) (w : World) : Calls Try.prog 12 #[.int .i64 8, .int .i64 a, .int .i64 b] w fun e w' => e = .returned (.tuple #[.bool (gB 8 a b), .bool (gIs 8)]) ∧ Below w.heap.size w w' := by
  have x1 := sg_bd a ha
  have y1 := sg_bd b hb
  have e1 := sg_wrap a ha
  have e1' := sg_wrapK a ha
  have f1 := sg_wrap b hb
  have f1' := sg_wrapK b hb
  obtain ⟨x, hx⟩ : ∃ x, x = sg a := ⟨_, rfl⟩
  obtain ⟨y, hy⟩ : ∃ y, y = sg b := ⟨_, rfl⟩
  rw [← hx] at x1 e1 e1'
  rw [← hy] at y1 f1 f1'
  have HX := Lib.hid hx
  have HY := Lib.hid hy
  obtain ⟨x1, x2⟩ := x1
  obtain ⟨y1, y2⟩ := y1
  clear hx hy
  go_enter Try.func12, Try.ntmps12
  go_wp2_with fail
  refine (nameT8 _).mono ?_
  rintro e w1 ⟨rfl, hB⟩
  go_wp2_with fail
  refine (sign_sg a ha _).mono ?_
  rw [← HX.out]
  rintro e w2 ⟨rfl, rfl⟩
  go_wp2_with fail
  refine (sign_sg b hb _).mono ?_
  rw [← HY.out]
  rintro e w2 ⟨rfl, rfl⟩
  go_wp2
  go_ret2
  exact ⟨ret_b (by rw [show gB 8 a b = decide (sg b ≤ sg a) from rfl, ← HX.out, ← HY.out]) rfl, hB⟩
theorem rwidth8 (w : World) : Calls Try.prog 14 #[.int .i64 8] w fun e w' => e = .returned (.int .i64 (wd 8)) ∧ Below w.heap.size w w' := by
  go_enter Try.func14, Try.ntmps14
  go_wp2_with fail
  refine (nameT8 _).mono ?_
  rintro e w1 ⟨rfl, hB⟩
  go_wp2
  go_ret
  exact ⟨rfl, hB⟩
theorem rwiden8 (x : Nat) (_hx : x < 4294967296) (w : World) : Calls Try.prog 16 #[.int .i64 8, .int .i64 x] w fun e w' => e = .returned (.int .i64 (we 8 x)) ∧ Below w.heap.size w w' := by
  go_enter Try.func16, Try.ntmps16
  go_wp2_with fail
  refine (nameT8 _).mono ?_
  rintro e w1 ⟨rfl, hB⟩
  go_wp2
  go_ret
  exact ⟨rfl, hB⟩
theorem rgoes9 (a b : Nat) (ha : a < 4294967296) (hb : b < 4294967296) (w : World) : Calls Try.prog 12 #[.int .i64 9, .int .i64 a, .int .i64 b] w fun e w' => e = .returned (.tuple #[.bool (gB 9 a b), .bool (gIs 9)]) ∧ Below w.heap.size w w' := by
  go_enter Try.func12, Try.ntmps12
  go_wp2_with fail
  refine (nameT9 _).mono ?_
  rintro e w1 ⟨rfl, hB⟩
  go_wp2
  go_ret2
  exact ⟨ret_b (by rw [show gB 9 a b = decide (a < b) from rfl]; first | done | (simp; done) | (simp; omega)) rfl, hB⟩
theorem rwidth9 (w : World) : Calls Try.prog 14 #[.int .i64 9] w fun e w' => e = .returned (.int .i64 (wd 9)) ∧ Below w.heap.size w w' := by
  go_enter Try.func14, Try.ntmps14
  go_wp2_with fail
  refine (nameT9 _).mono ?_
  rintro e w1 ⟨rfl, hB⟩
  go_wp2
  go_ret
  exact ⟨rfl, hB⟩
theorem rwiden9 (x : Nat) (_hx : x < 4294967296) (w : World) : Calls Try.prog 16 #[.int .i64 9, .int .i64 x] w fun e w' => e = .returned (.int .i64 (we 9 x)) ∧ Below w.heap.size w w' := by
  go_enter Try.func16, Try.ntmps16
  go_wp2_with fail
  refine (nameT9 _).mono ?_
  rintro e w1 ⟨rfl, hB⟩
  go_wp2
  go_ret
  exact ⟨rfl, hB⟩
theorem rgoes10 (a b : Nat) (ha : a < 4294967296) (hb : b < 4294967296) (w : World) : Calls Try.prog 12 #[.int .i64 10, .int .i64 a, .int .i64 b] w fun e w' => e = .returned (.tuple #[.bool (gB 10 a b), .bool (gIs 10)]) ∧ Below w.heap.size w w' := by
  go_enter Try.func12, Try.ntmps12
  go_wp2_with fail
  refine (nameT10 _).mono ?_
  rintro e w1 ⟨rfl, hB⟩
  go_wp2
  go_ret2
  exact ⟨ret_b (by rw [show gB 10 a b = decide (b ≤ a) from rfl]; first | done | (simp; done) | (simp; omega)) rfl, hB⟩
theorem rwidth10 (w : World) : Calls Try.prog 14 #[.int .i64 10] w fun e w' => e = .returned (.int .i64 (wd 10)) ∧ Below w.heap.size w w' := by
  go_enter Try.func14, Try.ntmps14
  go_wp2_with fail
  refine (nameT10 _).mono ?_
  rintro e w1 ⟨rfl, hB⟩
  go_wp2
  go_ret
  exact ⟨rfl, hB⟩
theorem rwiden10 (x : Nat) (_hx : x < 4294967296) (w : World) : Calls Try.prog 16 #[.int .i64 10, .int .i64 x] w fun e w' => e = .returned (.int .i64 (we 10 x)) ∧ Below w.heap.size w w' := by
  go_enter Try.func16, Try.ntmps16
  go_wp2_with fail
  refine (nameT10 _).mono ?_
  rintro e w1 ⟨rfl, hB⟩
  go_wp2
  go_ret
  exact ⟨rfl, hB⟩
theorem rgoes11 (a b : Nat) (w : World) : Calls Try.prog 12 #[.int .i64 11, .int .i64 a, .int .i64 b] w fun e w' => e = .returned (.tuple #[.bool (gB 11 a b), .bool (gIs 11)]) ∧ Below w.heap.size w w' := by
  go_enter Try.func12, Try.ntmps12
  go_wp2_with fail
  refine (nameT11 _).mono ?_
  rintro e w1 ⟨rfl, hB⟩
  go_wp2
  go_ret2
  exact ⟨rfl, hB⟩
theorem rwidth11 (w : World) : Calls Try.prog 14 #[.int .i64 11] w fun e w' => e = .returned (.int .i64 (wd 11)) ∧ Below w.heap.size w w' := by
  go_enter Try.func14, Try.ntmps14
  go_wp2_with fail
  refine (nameT11 _).mono ?_
  rintro e w1 ⟨rfl, hB⟩
  go_wp2
  go_ret
  exact ⟨rfl, hB⟩
theorem rwiden11 (x : Nat) (hx : x < 4294967296) (w : World) : Calls Try.prog 16 #[.int .i64 11, .int .i64 x] w fun e w' => e = .returned (.int .i64 (we 11 x)) ∧ Below w.heap.size w w' := by
  by_cases h : x % 256 < 128
  · have hd : decide ((x : Int) % 256 ≥ 128) = false := by simp; omega
    have H := Lib.hid h
    clear h
    go_enter Try.func16, Try.ntmps16
    go_wp2_with fail
    refine (nameT11 _).mono ?_
    rintro e w1 ⟨rfl, hB⟩
    go_wp2
    go_ret
    exact ⟨ret_u (by have := H.out; rw [show we 11 x = (if x % 256 < 128 then ((x % 256 : Nat) : Int) else ((x % 256 : Nat) : Int) + 4294967040) from rfl]; split <;> omega), hB⟩
  · have hd : decide ((x : Int) % 256 ≥ 128) = true := by simp; omega
    have H := Lib.hid h
    clear h
    go_enter Try.func16, Try.ntmps16
    go_wp2_with fail
    refine (nameT11 _).mono ?_
    rintro e w1 ⟨rfl, hB⟩
    go_wp2
    go_ret
    exact ⟨ret_u (by have := H.out; rw [show we 11 x = (if x % 256 < 128 then ((x % 256 : Nat) : Int) else ((x % 256 : Nat) : Int) + 4294967040) from rfl]; split <;> omega), hB⟩
theorem rgoes12 (a b : Nat) (w : World) : Calls Try.prog 12 #[.int .i64 12, .int .i64 a, .int .i64 b] w fun e w' => e = .returned (.tuple #[.bool (gB 12 a b), .bool (gIs 12)]) ∧ Below w.heap.size w w' := by
  go_enter Try.func12, Try.ntmps12
  go_wp2_with fail
  refine (nameT12 _).mono ?_
  rintro e w1 ⟨rfl, hB⟩
  go_wp2
  go_ret2
  exact ⟨rfl, hB⟩
theorem rwidth12 (w : World) : Calls Try.prog 14 #[.int .i64 12] w fun e w' => e = .returned (.int .i64 (wd 12)) ∧ Below w.heap.size w w' := by
  go_enter Try.func14, Try.ntmps14
  go_wp2_with fail
  refine (nameT12 _).mono ?_
  rintro e w1 ⟨rfl, hB⟩
  go_wp2
  go_ret
  exact ⟨rfl, hB⟩
theorem rwiden12 (x : Nat) (hx : x < 4294967296) (w : World) : Calls Try.prog 16 #[.int .i64 12, .int .i64 x] w fun e w' => e = .returned (.int .i64 (we 12 x)) ∧ Below w.heap.size w w' := by
  by_cases h : x % 65536 < 32768
  · have hd : decide ((x : Int) % 65536 ≥ 32768) = false := by simp; omega
    have H := Lib.hid h
    clear h
    go_enter Try.func16, Try.ntmps16
    go_wp2_with fail
    refine (nameT12 _).mono ?_
    rintro e w1 ⟨rfl, hB⟩
    go_wp2
    go_ret
    exact ⟨ret_u (by have := H.out; rw [show we 12 x = (if x % 65536 < 32768 then ((x % 65536 : Nat) : Int) else ((x % 65536 : Nat) : Int) + 4294901760) from rfl]; split <;> omega), hB⟩
  · have hd : decide ((x : Int) % 65536 ≥ 32768) = true := by simp; omega
    have H := Lib.hid h
    clear h
    go_enter Try.func16, Try.ntmps16
    go_wp2_with fail
    refine (nameT12 _).mono ?_
    rintro e w1 ⟨rfl, hB⟩
    go_wp2
    go_ret
    exact ⟨ret_u (by have := H.out; rw [show we 12 x = (if x % 65536 < 32768 then ((x % 65536 : Nat) : Int) else ((x % 65536 : Nat) : Int) + 4294901760) from rfl]; split <;> omega), hB⟩
theorem rgoes13 (a b : Nat) (w : World) : Calls Try.prog 12 #[.int .i64 13, .int .i64 a, .int .i64 b] w fun e w' => e = .returned (.tuple #[.bool (gB 13 a b), .bool (gIs 13)]) ∧ Below w.heap.size w w' := by
  go_enter Try.func12, Try.ntmps12
  go_wp2_with fail
  refine (nameT13 _).mono ?_
  rintro e w1 ⟨rfl, hB⟩
  go_wp2
  go_ret2
  exact ⟨rfl, hB⟩
theorem rwidth13 (w : World) : Calls Try.prog 14 #[.int .i64 13] w fun e w' => e = .returned (.int .i64 (wd 13)) ∧ Below w.heap.size w w' := by
  go_enter Try.func14, Try.ntmps14
  go_wp2_with fail
  refine (nameT13 _).mono ?_
  rintro e w1 ⟨rfl, hB⟩
  go_wp2
  go_ret
  exact ⟨rfl, hB⟩
theorem rwiden13 (x : Nat) (_hx : x < 4294967296) (w : World) : Calls Try.prog 16 #[.int .i64 13, .int .i64 x] w fun e w' => e = .returned (.int .i64 (we 13 x)) ∧ Below w.heap.size w w' := by
  go_enter Try.func16, Try.ntmps16
  go_wp2_with fail
  refine (nameT13 _).mono ?_
  rintro e w1 ⟨rfl, hB⟩
  go_wp2
  go_ret
  exact ⟨rfl, hB⟩
theorem rgoes14 (a b : Nat) (w : World) : Calls Try.prog 12 #[.int .i64 14, .int .i64 a, .int .i64 b] w fun e w' => e = .returned (.tuple #[.bool (gB 14 a b), .bool (gIs 14)]) ∧ Below w.heap.size w w' := by
  go_enter Try.func12, Try.ntmps12
  go_wp2_with fail
  refine (nameT14 _).mono ?_
  rintro e w1 ⟨rfl, hB⟩
  go_wp2
  go_ret2
  exact ⟨rfl, hB⟩
theorem rwidth14 (w : World) : Calls Try.prog 14 #[.int .i64 14] w fun e w' => e = .returned (.int .i64 (wd 14)) ∧ Below w.heap.size w w' := by
  go_enter Try.func14, Try.ntmps14
  go_wp2_with fail
  refine (nameT14 _).mono ?_
  rintro e w1 ⟨rfl, hB⟩
  go_wp2
  go_ret
  exact ⟨rfl, hB⟩
theorem rwiden14 (x : Nat) (_hx : x < 4294967296) (w : World) : Calls Try.prog 16 #[.int .i64 14, .int .i64 x] w fun e w' => e = .returned (.int .i64 (we 14 x)) ∧ Below w.heap.size w w' := by
  go_enter Try.func16, Try.ntmps16
  go_wp2_with fail
  refine (nameT14 _).mono ?_
  rintro e w1 ⟨rfl, hB⟩
  go_wp2
  go_ret
  exact ⟨rfl, hB⟩
theorem rgoes15 (a b : Nat) (w : World) : Calls Try.prog 12 #[.int .i64 15, .int .i64 a, .int .i64 b] w fun e w' => e = .returned (.tuple #[.bool (gB 15 a b), .bool (gIs 15)]) ∧ Below w.heap.size w w' := by
  go_enter Try.func12, Try.ntmps12
  go_wp2_with fail
  refine (nameT15 _).mono ?_
  rintro e w1 ⟨rfl, hB⟩
  go_wp2
  go_ret2
  exact ⟨rfl, hB⟩
theorem rwidth15 (w : World) : Calls Try.prog 14 #[.int .i64 15] w fun e w' => e = .returned (.int .i64 (wd 15)) ∧ Below w.heap.size w w' := by
  go_enter Try.func14, Try.ntmps14
  go_wp2_with fail
  refine (nameT15 _).mono ?_
  rintro e w1 ⟨rfl, hB⟩
  go_wp2
  go_ret
  exact ⟨rfl, hB⟩
theorem rwiden15 (x : Nat) (_hx : x < 4294967296) (w : World) : Calls Try.prog 16 #[.int .i64 15, .int .i64 x] w fun e w' => e = .returned (.int .i64 (we 15 x)) ∧ Below w.heap.size w w' := by
  go_enter Try.func16, Try.ntmps16
  go_wp2_with fail
  refine (nameT15 _).mono ?_
  rintro e w1 ⟨rfl, hB⟩
  go_wp2
  go_ret
  exact ⟨rfl, hB⟩
theorem rgoes16 (a b : Nat) (w : World) : Calls Try.prog 12 #[.int .i64 16, .int .i64 a, .int .i64 b] w fun e w' => e = .returned (.tuple #[.bool (gB 16 a b), .bool (gIs 16)]) ∧ Below w.heap.size w w' := by
  go_enter Try.func12, Try.ntmps12
  go_wp2_with fail
  refine (nameT16 _).mono ?_
  rintro e w1 ⟨rfl, hB⟩
  go_wp2
  go_ret2
  exact ⟨rfl, hB⟩
theorem rwidth16 (w : World) : Calls Try.prog 14 #[.int .i64 16] w fun e w' => e = .returned (.int .i64 (wd 16)) ∧ Below w.heap.size w w' := by
  go_enter Try.func14, Try.ntmps14
  go_wp2_with fail
  refine (nameT16 _).mono ?_
  rintro e w1 ⟨rfl, hB⟩
  go_wp2
  go_ret
  exact ⟨rfl, hB⟩
theorem rwiden16 (x : Nat) (_hx : x < 4294967296) (w : World) : Calls Try.prog 16 #[.int .i64 16, .int .i64 x] w fun e w' => e = .returned (.int .i64 (we 16 x)) ∧ Below w.heap.size w w' := by
  go_enter Try.func16, Try.ntmps16
  go_wp2_with fail
  refine (nameT16 _).mono ?_
  rintro e w1 ⟨rfl, hB⟩
  go_wp2
  go_ret
  exact ⟨rfl, hB⟩
theorem rgoes17 (a b : Nat) (w : World) : Calls Try.prog 12 #[.int .i64 17, .int .i64 a, .int .i64 b] w fun e w' => e = .returned (.tuple #[.bool (gB 17 a b), .bool (gIs 17)]) ∧ Below w.heap.size w w' := by
  go_enter Try.func12, Try.ntmps12
  go_wp2_with fail
  refine (nameT17 _).mono ?_
  rintro e w1 ⟨rfl, hB⟩
  go_wp2
  go_ret2
  exact ⟨rfl, hB⟩
theorem rwidth17 (w : World) : Calls Try.prog 14 #[.int .i64 17] w fun e w' => e = .returned (.int .i64 (wd 17)) ∧ Below w.heap.size w w' := by
  go_enter Try.func14, Try.ntmps14
  go_wp2_with fail
  refine (nameT17 _).mono ?_
  rintro e w1 ⟨rfl, hB⟩
  go_wp2
  go_ret
  exact ⟨rfl, hB⟩
theorem rwiden17 (x : Nat) (_hx : x < 4294967296) (w : World) : Calls Try.prog 16 #[.int .i64 17, .int .i64 x] w fun e w' => e = .returned (.int .i64 (we 17 x)) ∧ Below w.heap.size w w' := by
  go_enter Try.func16, Try.ntmps16
  go_wp2_with fail
  refine (nameT17 _).mono ?_
  rintro e w1 ⟨rfl, hB⟩
  go_wp2
  go_ret
  exact ⟨rfl, hB⟩
theorem rgoes18 (a b : Nat) (w : World) : Calls Try.prog 12 #[.int .i64 18, .int .i64 a, .int .i64 b] w fun e w' => e = .returned (.tuple #[.bool (gB 18 a b), .bool (gIs 18)]) ∧ Below w.heap.size w w' := by
  go_enter Try.func12, Try.ntmps12
  go_wp2_with fail
  refine (nameT18 _).mono ?_
  rintro e w1 ⟨rfl, hB⟩
  go_wp2
  go_ret2
  exact ⟨rfl, hB⟩
theorem rwidth18 (w : World) : Calls Try.prog 14 #[.int .i64 18] w fun e w' => e = .returned (.int .i64 (wd 18)) ∧ Below w.heap.size w w' := by
  go_enter Try.func14, Try.ntmps14
  go_wp2_with fail
  refine (nameT18 _).mono ?_
  rintro e w1 ⟨rfl, hB⟩
  go_wp2
  go_ret
  exact ⟨rfl, hB⟩
theorem rwiden18 (x : Nat) (_hx : x < 4294967296) (w : World) : Calls Try.prog 16 #[.int .i64 18, .int .i64 x] w fun e w' => e = .returned (.int .i64 (we 18 x)) ∧ Below w.heap.size w w' := by
  go_enter Try.func16, Try.ntmps16
  go_wp2_with fail
  refine (nameT18 _).mono ?_
  rintro e w1 ⟨rfl, hB⟩
  go_wp2
  go_ret
  exact ⟨rfl, hB⟩
theorem rgoes19 (a b : Nat) (w : World) : Calls Try.prog 12 #[.int .i64 19, .int .i64 a, .int .i64 b] w fun e w' => e = .returned (.tuple #[.bool (gB 19 a b), .bool (gIs 19)]) ∧ Below w.heap.size w w' := by
  go_enter Try.func12, Try.ntmps12
  go_wp2_with fail
  refine (nameT19 _).mono ?_
  rintro e w1 ⟨rfl, hB⟩
  go_wp2
  go_ret2
  exact ⟨rfl, hB⟩
theorem rwidth19 (w : World) : Calls Try.prog 14 #[.int .i64 19] w fun e w' => e = .returned (.int .i64 (wd 19)) ∧ Below w.heap.size w w' := by
  go_enter Try.func14, Try.ntmps14
  go_wp2_with fail
  refine (nameT19 _).mono ?_
  rintro e w1 ⟨rfl, hB⟩
  go_wp2
  go_ret
  exact ⟨rfl, hB⟩
theorem rwiden19 (x : Nat) (_hx : x < 4294967296) (w : World) : Calls Try.prog 16 #[.int .i64 19, .int .i64 x] w fun e w' => e = .returned (.int .i64 (we 19 x)) ∧ Below w.heap.size w w' := by
  go_enter Try.func16, Try.ntmps16
  go_wp2_with fail
  refine (nameT19 _).mono ?_
  rintro e w1 ⟨rfl, hB⟩
  go_wp2
  go_ret
  exact ⟨rfl, hB⟩
theorem rgoes20 (a b : Nat) (w : World) : Calls Try.prog 12 #[.int .i64 20, .int .i64 a, .int .i64 b] w fun e w' => e = .returned (.tuple #[.bool (gB 20 a b), .bool (gIs 20)]) ∧ Below w.heap.size w w' := by
  go_enter Try.func12, Try.ntmps12
  go_wp2_with fail
  refine (nameT20 _).mono ?_
  rintro e w1 ⟨rfl, hB⟩
  go_wp2
  go_ret2
  exact ⟨rfl, hB⟩
theorem rwidth20 (w : World) : Calls Try.prog 14 #[.int .i64 20] w fun e w' => e = .returned (.int .i64 (wd 20)) ∧ Below w.heap.size w w' := by
  go_enter Try.func14, Try.ntmps14
  go_wp2_with fail
  refine (nameT20 _).mono ?_
  rintro e w1 ⟨rfl, hB⟩
  go_wp2
  go_ret
  exact ⟨rfl, hB⟩
theorem rwiden20 (x : Nat) (_hx : x < 4294967296) (w : World) : Calls Try.prog 16 #[.int .i64 20, .int .i64 x] w fun e w' => e = .returned (.int .i64 (we 20 x)) ∧ Below w.heap.size w w' := by
  go_enter Try.func16, Try.ntmps16
  go_wp2_with fail
  refine (nameT20 _).mono ?_
  rintro e w1 ⟨rfl, hB⟩
  go_wp2
  go_ret
  exact ⟨rfl, hB⟩
theorem rgoes21 (a b : Nat) (w : World) : Calls Try.prog 12 #[.int .i64 21, .int .i64 a, .int .i64 b] w fun e w' => e = .returned (.tuple #[.bool (gB 21 a b), .bool (gIs 21)]) ∧ Below w.heap.size w w' := by
  go_enter Try.func12, Try.ntmps12
  go_wp2_with fail
  refine (nameT21 _).mono ?_
  rintro e w1 ⟨rfl, hB⟩
  go_wp2
  go_ret2
  exact ⟨rfl, hB⟩
theorem rwidth21 (w : World) : Calls Try.prog 14 #[.int .i64 21] w fun e w' => e = .returned (.int .i64 (wd 21)) ∧ Below w.heap.size w w' := by
  go_enter Try.func14, Try.ntmps14
  go_wp2_with fail
  refine (nameT21 _).mono ?_
  rintro e w1 ⟨rfl, hB⟩
  go_wp2
  go_ret
  exact ⟨rfl, hB⟩
theorem rwiden21 (x : Nat) (_hx : x < 4294967296) (w : World) : Calls Try.prog 16 #[.int .i64 21, .int .i64 x] w fun e w' => e = .returned (.int .i64 (we 21 x)) ∧ Below w.heap.size w w' := by
  go_enter Try.func16, Try.ntmps16
  go_wp2_with fail
  refine (nameT21 _).mono ?_
  rintro e w1 ⟨rfl, hB⟩
  go_wp2
  go_ret
  exact ⟨rfl, hB⟩
theorem rgoes22 (a b : Nat) (w : World) : Calls Try.prog 12 #[.int .i64 22, .int .i64 a, .int .i64 b] w fun e w' => e = .returned (.tuple #[.bool (gB 22 a b), .bool (gIs 22)]) ∧ Below w.heap.size w w' := by
  go_enter Try.func12, Try.ntmps12
  go_wp2_with fail
  refine (nameT22 _).mono ?_
  rintro e w1 ⟨rfl, hB⟩
  go_wp2
  go_ret2
  exact ⟨rfl, hB⟩
theorem rwidth22 (w : World) : Calls Try.prog 14 #[.int .i64 22] w fun e w' => e = .returned (.int .i64 (wd 22)) ∧ Below w.heap.size w w' := by
  go_enter Try.func14, Try.ntmps14
  go_wp2_with fail
  refine (nameT22 _).mono ?_
  rintro e w1 ⟨rfl, hB⟩
  go_wp2
  go_ret
  exact ⟨rfl, hB⟩
theorem rwiden22 (x : Nat) (_hx : x < 4294967296) (w : World) : Calls Try.prog 16 #[.int .i64 22, .int .i64 x] w fun e w' => e = .returned (.int .i64 (we 22 x)) ∧ Below w.heap.size w w' := by
  go_enter Try.func16, Try.ntmps16
  go_wp2_with fail
  refine (nameT22 _).mono ?_
  rintro e w1 ⟨rfl, hB⟩
  go_wp2
  go_ret
  exact ⟨rfl, hB⟩
theorem rgoes23 (a b : Nat) (w : World) : Calls Try.prog 12 #[.int .i64 23, .int .i64 a, .int .i64 b] w fun e w' => e = .returned (.tuple #[.bool (gB 23 a b), .bool (gIs 23)]) ∧ Below w.heap.size w w' := by
  go_enter Try.func12, Try.ntmps12
  go_wp2_with fail
  refine (nameT23 _).mono ?_
  rintro e w1 ⟨rfl, hB⟩
  go_wp2
  go_ret2
  exact ⟨rfl, hB⟩
theorem rwidth23 (w : World) : Calls Try.prog 14 #[.int .i64 23] w fun e w' => e = .returned (.int .i64 (wd 23)) ∧ Below w.heap.size w w' := by
  go_enter Try.func14, Try.ntmps14
  go_wp2_with fail
  refine (nameT23 _).mono ?_
  rintro e w1 ⟨rfl, hB⟩
  go_wp2
  go_ret
  exact ⟨rfl, hB⟩
theorem rwiden23 (x : Nat) (_hx : x < 4294967296) (w : World) : Calls Try.prog 16 #[.int .i64 23, .int .i64 x] w fun e w' => e = .returned (.int .i64 (we 23 x)) ∧ Below w.heap.size w w' := by
  go_enter Try.func16, Try.ntmps16
  go_wp2_with fail
  refine (nameT23 _).mono ?_
  rintro e w1 ⟨rfl, hB⟩
  go_wp2
  go_ret
  exact ⟨rfl, hB⟩
theorem rgoes24 (a b : Nat) (w : World) : Calls Try.prog 12 #[.int .i64 24, .int .i64 a, .int .i64 b] w fun e w' => e = .returned (.tuple #[.bool (gB 24 a b), .bool (gIs 24)]) ∧ Below w.heap.size w w' := by
  go_enter Try.func12, Try.ntmps12
  go_wp2_with fail
  refine (nameT24 _).mono ?_
  rintro e w1 ⟨rfl, hB⟩
  go_wp2
  go_ret2
  exact ⟨rfl, hB⟩
theorem rwidth24 (w : World) : Calls Try.prog 14 #[.int .i64 24] w fun e w' => e = .returned (.int .i64 (wd 24)) ∧ Below w.heap.size w w' := by
  go_enter Try.func14, Try.ntmps14
  go_wp2_with fail
  refine (nameT24 _).mono ?_
  rintro e w1 ⟨rfl, hB⟩
  go_wp2
  go_ret
  exact ⟨rfl, hB⟩
theorem rwiden24 (x : Nat) (_hx : x < 4294967296) (w : World) : Calls Try.prog 16 #[.int .i64 24, .int .i64 x] w fun e w' => e = .returned (.int .i64 (we 24 x)) ∧ Below w.heap.size w w' := by
  go_enter Try.func16, Try.ntmps16
  go_wp2_with fail
  refine (nameT24 _).mono ?_
  rintro e w1 ⟨rfl, hB⟩
  go_wp2
  go_ret
  exact ⟨rfl, hB⟩
theorem rgoes25 (a b : Nat) (w : World) : Calls Try.prog 12 #[.int .i64 25, .int .i64 a, .int .i64 b] w fun e w' => e = .returned (.tuple #[.bool (gB 25 a b), .bool (gIs 25)]) ∧ Below w.heap.size w w' := by
  go_enter Try.func12, Try.ntmps12
  go_wp2_with fail
  refine (nameT25 _).mono ?_
  rintro e w1 ⟨rfl, hB⟩
  go_wp2
  go_ret2
  exact ⟨rfl, hB⟩
theorem rwidth25 (w : World) : Calls Try.prog 14 #[.int .i64 25] w fun e w' => e = .returned (.int .i64 (wd 25)) ∧ Below w.heap.size w w' := by
  go_enter Try.func14, Try.ntmps14
  go_wp2_with fail
  refine (nameT25 _).mono ?_
  rintro e w1 ⟨rfl, hB⟩
  go_wp2
  go_ret
  exact ⟨rfl, hB⟩
theorem rwiden25 (x : Nat) (_hx : x < 4294967296) (w : World) : Calls Try.prog 16 #[.int .i64 25, .int .i64 x] w fun e w' => e = .returned (.int .i64 (we 25 x)) ∧ Below w.heap.size w w' := by
  go_enter Try.func16, Try.ntmps16
  go_wp2_with fail
  refine (nameT25 _).mono ?_
  rintro e w1 ⟨rfl, hB⟩
  go_wp2
  go_ret
  exact ⟨rfl, hB⟩
theorem rgoes26 (a b : Nat) (w : World) : Calls Try.prog 12 #[.int .i64 26, .int .i64 a, .int .i64 b] w fun e w' => e = .returned (.tuple #[.bool (gB 26 a b), .bool (gIs 26)]) ∧ Below w.heap.size w w' := by
  go_enter Try.func12, Try.ntmps12
  go_wp2_with fail
  refine (nameT26 _).mono ?_
  rintro e w1 ⟨rfl, hB⟩
  go_wp2
  go_ret2
  exact ⟨rfl, hB⟩
theorem rwidth26 (w : World) : Calls Try.prog 14 #[.int .i64 26] w fun e w' => e = .returned (.int .i64 (wd 26)) ∧ Below w.heap.size w w' := by
  go_enter Try.func14, Try.ntmps14
  go_wp2_with fail
  refine (nameT26 _).mono ?_
  rintro e w1 ⟨rfl, hB⟩
  go_wp2
  go_ret
  exact ⟨rfl, hB⟩
theorem rwiden26 (x : Nat) (_hx : x < 4294967296) (w : World) : Calls Try.prog 16 #[.int .i64 26, .int .i64 x] w fun e w' => e = .returned (.int .i64 (we 26 x)) ∧ Below w.heap.size w w' := by
  go_enter Try.func16, Try.ntmps16
  go_wp2_with fail
  refine (nameT26 _).mono ?_
  rintro e w1 ⟨rfl, hB⟩
  go_wp2
  go_ret
  exact ⟨rfl, hB⟩
theorem rgoes27 (a b : Nat) (w : World) : Calls Try.prog 12 #[.int .i64 27, .int .i64 a, .int .i64 b] w fun e w' => e = .returned (.tuple #[.bool (gB 27 a b), .bool (gIs 27)]) ∧ Below w.heap.size w w' := by
  go_enter Try.func12, Try.ntmps12
  go_wp2_with fail
  refine (nameT27 _).mono ?_
  rintro e w1 ⟨rfl, hB⟩
  go_wp2
  go_ret2
  exact ⟨rfl, hB⟩
theorem rwidth27 (w : World) : Calls Try.prog 14 #[.int .i64 27] w fun e w' => e = .returned (.int .i64 (wd 27)) ∧ Below w.heap.size w w' := by
  go_enter Try.func14, Try.ntmps14
  go_wp2_with fail
  refine (nameT27 _).mono ?_
  rintro e w1 ⟨rfl, hB⟩
  go_wp2
  go_ret
  exact ⟨rfl, hB⟩
theorem rwiden27 (x : Nat) (_hx : x < 4294967296) (w : World) : Calls Try.prog 16 #[.int .i64 27, .int .i64 x] w fun e w' => e = .returned (.int .i64 (we 27 x)) ∧ Below w.heap.size w w' := by
  go_enter Try.func16, Try.ntmps16
  go_wp2_with fail
  refine (nameT27 _).mono ?_
  rintro e w1 ⟨rfl, hB⟩
  go_wp2
  go_ret
  exact ⟨rfl, hB⟩
theorem rgoes28 (a b : Nat) (w : World) : Calls Try.prog 12 #[.int .i64 28, .int .i64 a, .int .i64 b] w fun e w' => e = .returned (.tuple #[.bool (gB 28 a b), .bool (gIs 28)]) ∧ Below w.heap.size w w' := by
  go_enter Try.func12, Try.ntmps12
  go_wp2_with fail
  refine (nameT28 _).mono ?_
  rintro e w1 ⟨rfl, hB⟩
  go_wp2
  go_ret2
  exact ⟨rfl, hB⟩
theorem rwidth28 (w : World) : Calls Try.prog 14 #[.int .i64 28] w fun e w' => e = .returned (.int .i64 (wd 28)) ∧ Below w.heap.size w w' := by
  go_enter Try.func14, Try.ntmps14
  go_wp2_with fail
  refine (nameT28 _).mono ?_
  rintro e w1 ⟨rfl, hB⟩
  go_wp2
  go_ret
  exact ⟨rfl, hB⟩
theorem rwiden28 (x : Nat) (_hx : x < 4294967296) (w : World) : Calls Try.prog 16 #[.int .i64 28, .int .i64 x] w fun e w' => e = .returned (.int .i64 (we 28 x)) ∧ Below w.heap.size w w' := by
  go_enter Try.func16, Try.ntmps16
  go_wp2_with fail
  refine (nameT28 _).mono ?_
  rintro e w1 ⟨rfl, hB⟩
  go_wp2
  go_ret
  exact ⟨rfl, hB⟩
theorem rgoes29 (a b : Nat) (w : World) : Calls Try.prog 12 #[.int .i64 29, .int .i64 a, .int .i64 b] w fun e w' => e = .returned (.tuple #[.bool (gB 29 a b), .bool (gIs 29)]) ∧ Below w.heap.size w w' := by
  go_enter Try.func12, Try.ntmps12
  go_wp2_with fail
  refine (nameT29 _).mono ?_
  rintro e w1 ⟨rfl, hB⟩
  go_wp2
  go_ret2
  exact ⟨rfl, hB⟩
theorem rwidth29 (w : World) : Calls Try.prog 14 #[.int .i64 29] w fun e w' => e = .returned (.int .i64 (wd 29)) ∧ Below w.heap.size w w' := by
  go_enter Try.func14, Try.ntmps14
  go_wp2_with fail
  refine (nameT29 _).mono ?_
  rintro e w1 ⟨rfl, hB⟩
  go_wp2
  go_ret
  exact ⟨rfl, hB⟩
theorem rwiden29 (x : Nat) (_hx : x < 4294967296) (w : World) : Calls Try.prog 16 #[.int .i64 29, .int .i64 x] w fun e w' => e = .returned (.int .i64 (we 29 x)) ∧ Below w.heap.size w w' := by
  go_enter Try.func16, Try.ntmps16
  go_wp2_with fail
  refine (nameT29 _).mono ?_
  rintro e w1 ⟨rfl, hB⟩
  go_wp2
  go_ret
  exact ⟨rfl, hB⟩
theorem rgoes30 (a b : Nat) (w : World) : Calls Try.prog 12 #[.int .i64 30, .int .i64 a, .int .i64 b] w fun e w' => e = .returned (.tuple #[.bool (gB 30 a b), .bool (gIs 30)]) ∧ Below w.heap.size w w' := by
  go_enter Try.func12, Try.ntmps12
  go_wp2_with fail
  refine (nameT30 _).mono ?_
  rintro e w1 ⟨rfl, hB⟩
  go_wp2
  go_ret2
  exact ⟨rfl, hB⟩
theorem rwidth30 (w : World) : Calls Try.prog 14 #[.int .i64 30] w fun e w' => e = .returned (.int .i64 (wd 30)) ∧ Below w.heap.size w w' := by
  go_enter Try.func14, Try.ntmps14
  go_wp2_with fail
  refine (nameT30 _).mono ?_
  rintro e w1 ⟨rfl, hB⟩
  go_wp2
  go_ret
  exact ⟨rfl, hB⟩
theorem rwiden30 (x : Nat) (_hx : x < 4294967296) (w : World) : Calls Try.prog 16 #[.int .i64 30, .int .i64 x] w fun e w' => e = .returned (.int .i64 (we 30 x)) ∧ Below w.heap.size w w' := by
  go_enter Try.func16, Try.ntmps16
  go_wp2_with fail
  refine (nameT30 _).mono ?_
  rintro e w1 ⟨rfl, hB⟩
  go_wp2
  go_ret
  exact ⟨rfl, hB⟩
theorem rgoes31 (a b : Nat) (w : World) : Calls Try.prog 12 #[.int .i64 31, .int .i64 a, .int .i64 b] w fun e w' => e = .returned (.tuple #[.bool (gB 31 a b), .bool (gIs 31)]) ∧ Below w.heap.size w w' := by
  go_enter Try.func12, Try.ntmps12
  go_wp2_with fail
  refine (nameT31 _).mono ?_
  rintro e w1 ⟨rfl, hB⟩
  go_wp2
  go_ret2
  exact ⟨rfl, hB⟩
theorem rwidth31 (w : World) : Calls Try.prog 14 #[.int .i64 31] w fun e w' => e = .returned (.int .i64 (wd 31)) ∧ Below w.heap.size w w' := by
  go_enter Try.func14, Try.ntmps14
  go_wp2_with fail
  refine (nameT31 _).mono ?_
  rintro e w1 ⟨rfl, hB⟩
  go_wp2
  go_ret
  exact ⟨rfl, hB⟩
theorem rwiden31 (x : Nat) (_hx : x < 4294967296) (w : World) : Calls Try.prog 16 #[.int .i64 31, .int .i64 x] w fun e w' => e = .returned (.int .i64 (we 31 x)) ∧ Below w.heap.size w w' := by
  go_enter Try.func16, Try.ntmps16
  go_wp2_with fail
  refine (nameT31 _).mono ?_
  rintro e w1 ⟨rfl, hB⟩
  go_wp2
  go_ret
  exact ⟨rfl, hB⟩
theorem rgoes32 (a b : Nat) (w : World) : Calls Try.prog 12 #[.int .i64 32, .int .i64 a, .int .i64 b] w fun e w' => e = .returned (.tuple #[.bool (gB 32 a b), .bool (gIs 32)]) ∧ Below w.heap.size w w' := by
  go_enter Try.func12, Try.ntmps12
  go_wp2_with fail
  refine (nameT32 _).mono ?_
  rintro e w1 ⟨rfl, hB⟩
  go_wp2
  go_ret2
  exact ⟨rfl, hB⟩
theorem rwidth32 (w : World) : Calls Try.prog 14 #[.int .i64 32] w fun e w' => e = .returned (.int .i64 (wd 32)) ∧ Below w.heap.size w w' := by
  go_enter Try.func14, Try.ntmps14
  go_wp2_with fail
  refine (nameT32 _).mono ?_
  rintro e w1 ⟨rfl, hB⟩
  go_wp2
  go_ret
  exact ⟨rfl, hB⟩
theorem rwiden32 (x : Nat) (_hx : x < 4294967296) (w : World) : Calls Try.prog 16 #[.int .i64 32, .int .i64 x] w fun e w' => e = .returned (.int .i64 (we 32 x)) ∧ Below w.heap.size w w' := by
  go_enter Try.func16, Try.ntmps16
  go_wp2_with fail
  refine (nameT32 _).mono ?_
  rintro e w1 ⟨rfl, hB⟩
  go_wp2
  go_ret
  exact ⟨rfl, hB⟩
theorem rgoes33 (a b : Nat) (w : World) : Calls Try.prog 12 #[.int .i64 33, .int .i64 a, .int .i64 b] w fun e w' => e = .returned (.tuple #[.bool (gB 33 a b), .bool (gIs 33)]) ∧ Below w.heap.size w w' := by
  go_enter Try.func12, Try.ntmps12
  go_wp2_with fail
  refine (nameT33 _).mono ?_
  rintro e w1 ⟨rfl, hB⟩
  go_wp2
  go_ret2
  exact ⟨rfl, hB⟩
theorem rwidth33 (w : World) : Calls Try.prog 14 #[.int .i64 33] w fun e w' => e = .returned (.int .i64 (wd 33)) ∧ Below w.heap.size w w' := by
  go_enter Try.func14, Try.ntmps14
  go_wp2_with fail
  refine (nameT33 _).mono ?_
  rintro e w1 ⟨rfl, hB⟩
  go_wp2
  go_ret
  exact ⟨rfl, hB⟩
theorem rwiden33 (x : Nat) (_hx : x < 4294967296) (w : World) : Calls Try.prog 16 #[.int .i64 33, .int .i64 x] w fun e w' => e = .returned (.int .i64 (we 33 x)) ∧ Below w.heap.size w w' := by
  go_enter Try.func16, Try.ntmps16
  go_wp2_with fail
  refine (nameT33 _).mono ?_
  rintro e w1 ⟨rfl, hB⟩
  go_wp2
  go_ret
  exact ⟨rfl, hB⟩
theorem rgoes34 (a b : Nat) (w : World) : Calls Try.prog 12 #[.int .i64 34, .int .i64 a, .int .i64 b] w fun e w' => e = .returned (.tuple #[.bool (gB 34 a b), .bool (gIs 34)]) ∧ Below w.heap.size w w' := by
  go_enter Try.func12, Try.ntmps12
  go_wp2_with fail
  refine (nameT34 _).mono ?_
  rintro e w1 ⟨rfl, hB⟩
  go_wp2
  go_ret2
  exact ⟨rfl, hB⟩
theorem rwidth34 (w : World) : Calls Try.prog 14 #[.int .i64 34] w fun e w' => e = .returned (.int .i64 (wd 34)) ∧ Below w.heap.size w w' := by
  go_enter Try.func14, Try.ntmps14
  go_wp2_with fail
  refine (nameT34 _).mono ?_
  rintro e w1 ⟨rfl, hB⟩
  go_wp2
  go_ret
  exact ⟨rfl, hB⟩
theorem rwiden34 (x : Nat) (_hx : x < 4294967296) (w : World) : Calls Try.prog 16 #[.int .i64 34, .int .i64 x] w fun e w' => e = .returned (.int .i64 (we 34 x)) ∧ Below w.heap.size w w' := by
  go_enter Try.func16, Try.ntmps16
  go_wp2_with fail
  refine (nameT34 _).mono ?_
  rintro e w1 ⟨rfl, hB⟩
  go_wp2
  go_ret
  exact ⟨rfl, hB⟩
theorem rgoes35 (a b : Nat) (w : World) : Calls Try.prog 12 #[.int .i64 35, .int .i64 a, .int .i64 b] w fun e w' => e = .returned (.tuple #[.bool (gB 35 a b), .bool (gIs 35)]) ∧ Below w.heap.size w w' := by
  go_enter Try.func12, Try.ntmps12
  go_wp2_with fail
  refine (nameT35 _).mono ?_
  rintro e w1 ⟨rfl, hB⟩
  go_wp2
  go_ret2
  exact ⟨rfl, hB⟩
theorem rwidth35 (w : World) : Calls Try.prog 14 #[.int .i64 35] w fun e w' => e = .returned (.int .i64 (wd 35)) ∧ Below w.heap.size w w' := by
  go_enter Try.func14, Try.ntmps14
  go_wp2_with fail
  refine (nameT35 _).mono ?_
  rintro e w1 ⟨rfl, hB⟩
  go_wp2
  go_ret
  exact ⟨rfl, hB⟩
theorem rwiden35 (x : Nat) (_hx : x < 4294967296) (w : World) : Calls Try.prog 16 #[.int .i64 35, .int .i64 x] w fun e w' => e = .returned (.int .i64 (we 35 x)) ∧ Below w.heap.size w w' := by
  go_enter Try.func16, Try.ntmps16
  go_wp2_with fail
  refine (nameT35 _).mono ?_
  rintro e w1 ⟨rfl, hB⟩
  go_wp2
  go_ret
  exact ⟨rfl, hB⟩
theorem rgoes36 (a b : Nat) (w : World) : Calls Try.prog 12 #[.int .i64 36, .int .i64 a, .int .i64 b] w fun e w' => e = .returned (.tuple #[.bool (gB 36 a b), .bool (gIs 36)]) ∧ Below w.heap.size w w' := by
  go_enter Try.func12, Try.ntmps12
  go_wp2_with fail
  refine (nameT36 _).mono ?_
  rintro e w1 ⟨rfl, hB⟩
  go_wp2
  go_ret2
  exact ⟨rfl, hB⟩
theorem rwidth36 (w : World) : Calls Try.prog 14 #[.int .i64 36] w fun e w' => e = .returned (.int .i64 (wd 36)) ∧ Below w.heap.size w w' := by
  go_enter Try.func14, Try.ntmps14
  go_wp2_with fail
  refine (nameT36 _).mono ?_
  rintro e w1 ⟨rfl, hB⟩
  go_wp2
  go_ret
  exact ⟨rfl, hB⟩
theorem rwiden36 (x : Nat) (_hx : x < 4294967296) (w : World) : Calls Try.prog 16 #[.int .i64 36, .int .i64 x] w fun e w' => e = .returned (.int .i64 (we 36 x)) ∧ Below w.heap.size w w' := by
  go_enter Try.func16, Try.ntmps16
  go_wp2_with fail
  refine (nameT36 _).mono ?_
  rintro e w1 ⟨rfl, hB⟩
  go_wp2
  go_ret
  exact ⟨rfl, hB⟩
theorem rgoes37 (a b : Nat) (w : World) : Calls Try.prog 12 #[.int .i64 37, .int .i64 a, .int .i64 b] w fun e w' => e = .returned (.tuple #[.bool (gB 37 a b), .bool (gIs 37)]) ∧ Below w.heap.size w w' := by
  go_enter Try.func12, Try.ntmps12
  go_wp2_with fail
  refine (nameT37 _).mono ?_
  rintro e w1 ⟨rfl, hB⟩
  go_wp2
  go_ret2
  exact ⟨rfl, hB⟩
theorem rwidth37 (w : World) : Calls Try.prog 14 #[.int .i64 37] w fun e w' => e = .returned (.int .i64 (wd 37)) ∧ Below w.heap.size w w' := by
  go_enter Try.func14, Try.ntmps14
  go_wp2_with fail
  refine (nameT37 _).mono ?_
  rintro e w1 ⟨rfl, hB⟩
  go_wp2
  go_ret
  exact ⟨rfl, hB⟩
theorem rwiden37 (x : Nat) (_hx : x < 4294967296) (w : World) : Calls Try.prog 16 #[.int .i64 37, .int .i64 x] w fun e w' => e = .returned (.int .i64 (we 37 x)) ∧ Below w.heap.size w w' := by
  go_enter Try.func16, Try.ntmps16
  go_wp2_with fail
  refine (nameT37 _).mono ?_
  rintro e w1 ⟨rfl, hB⟩
  go_wp2
  go_ret
  exact ⟨rfl, hB⟩
theorem rgoes38 (a b : Nat) (w : World) : Calls Try.prog 12 #[.int .i64 38, .int .i64 a, .int .i64 b] w fun e w' => e = .returned (.tuple #[.bool (gB 38 a b), .bool (gIs 38)]) ∧ Below w.heap.size w w' := by
  go_enter Try.func12, Try.ntmps12
  go_wp2_with fail
  refine (nameT38 _).mono ?_
  rintro e w1 ⟨rfl, hB⟩
  go_wp2
  go_ret2
  exact ⟨rfl, hB⟩
theorem rwidth38 (w : World) : Calls Try.prog 14 #[.int .i64 38] w fun e w' => e = .returned (.int .i64 (wd 38)) ∧ Below w.heap.size w w' := by
  go_enter Try.func14, Try.ntmps14
  go_wp2_with fail
  refine (nameT38 _).mono ?_
  rintro e w1 ⟨rfl, hB⟩
  go_wp2
  go_ret
  exact ⟨rfl, hB⟩
theorem rwiden38 (x : Nat) (_hx : x < 4294967296) (w : World) : Calls Try.prog 16 #[.int .i64 38, .int .i64 x] w fun e w' => e = .returned (.int .i64 (we 38 x)) ∧ Below w.heap.size w w' := by
  go_enter Try.func16, Try.ntmps16
  go_wp2_with fail
  refine (nameT38 _).mono ?_
  rintro e w1 ⟨rfl, hB⟩
  go_wp2
  go_ret
  exact ⟨rfl, hB⟩
theorem rgoes39 (a b : Nat) (w : World) : Calls Try.prog 12 #[.int .i64 39, .int .i64 a, .int .i64 b] w fun e w' => e = .returned (.tuple #[.bool (gB 39 a b), .bool (gIs 39)]) ∧ Below w.heap.size w w' := by
  go_enter Try.func12, Try.ntmps12
  go_wp2_with fail
  refine (nameT39 _).mono ?_
  rintro e w1 ⟨rfl, hB⟩
  go_wp2
  go_ret2
  exact ⟨rfl, hB⟩
theorem rwidth39 (w : World) : Calls Try.prog 14 #[.int .i64 39] w fun e w' => e = .returned (.int .i64 (wd 39)) ∧ Below w.heap.size w w' := by
  go_enter Try.func14, Try.ntmps14
  go_wp2_with fail
  refine (nameT39 _).mono ?_
  rintro e w1 ⟨rfl, hB⟩
  go_wp2
  go_ret
  exact ⟨rfl, hB⟩
theorem rwiden39 (x : Nat) (_hx : x < 4294967296) (w : World) : Calls Try.prog 16 #[.int .i64 39, .int .i64 x] w fun e w' => e = .returned (.int .i64 (we 39 x)) ∧ Below w.heap.size w w' := by
  go_enter Try.func16, Try.ntmps16
  go_wp2_with fail
  refine (nameT39 _).mono ?_
  rintro e w1 ⟨rfl, hB⟩
  go_wp2
  go_ret
  exact ⟨rfl, hB⟩
theorem rgoes40 (a b : Nat) (w : World) : Calls Try.prog 12 #[.int .i64 40, .int .i64 a, .int .i64 b] w fun e w' => e = .returned (.tuple #[.bool (gB 40 a b), .bool (gIs 40)]) ∧ Below w.heap.size w w' := by
  go_enter Try.func12, Try.ntmps12
  go_wp2_with fail
  refine (nameT40 _).mono ?_
  rintro e w1 ⟨rfl, hB⟩
  go_wp2
  go_ret2
  exact ⟨rfl, hB⟩
theorem rwidth40 (w : World) : Calls Try.prog 14 #[.int .i64 40] w fun e w' => e = .returned (.int .i64 (wd 40)) ∧ Below w.heap.size w w' := by
  go_enter Try.func14, Try.ntmps14
  go_wp2_with fail
  refine (nameT40 _).mono ?_
  rintro e w1 ⟨rfl, hB⟩
  go_wp2
  go_ret
  exact ⟨rfl, hB⟩
theorem rwiden40 (x : Nat) (_hx : x < 4294967296) (w : World) : Calls Try.prog 16 #[.int .i64 40, .int .i64 x] w fun e w' => e = .returned (.int .i64 (we 40 x)) ∧ Below w.heap.size w w' := by
  go_enter Try.func16, Try.ntmps16
  go_wp2_with fail
  refine (nameT40 _).mono ?_
  rintro e w1 ⟨rfl, hB⟩
  go_wp2
  go_ret
  exact ⟨rfl, hB⟩
theorem rgoes41 (a b : Nat) (w : World) : Calls Try.prog 12 #[.int .i64 41, .int .i64 a, .int .i64 b] w fun e w' => e = .returned (.tuple #[.bool (gB 41 a b), .bool (gIs 41)]) ∧ Below w.heap.size w w' := by
  go_enter Try.func12, Try.ntmps12
  go_wp2_with fail
  refine (nameT41 _).mono ?_
  rintro e w1 ⟨rfl, hB⟩
  go_wp2
  go_ret2
  exact ⟨rfl, hB⟩
theorem rwidth41 (w : World) : Calls Try.prog 14 #[.int .i64 41] w fun e w' => e = .returned (.int .i64 (wd 41)) ∧ Below w.heap.size w w' := by
  go_enter Try.func14, Try.ntmps14
  go_wp2_with fail
  refine (nameT41 _).mono ?_
  rintro e w1 ⟨rfl, hB⟩
  go_wp2
  go_ret
  exact ⟨rfl, hB⟩
theorem rwiden41 (x : Nat) (_hx : x < 4294967296) (w : World) : Calls Try.prog 16 #[.int .i64 41, .int .i64 x] w fun e w' => e = .returned (.int .i64 (we 41 x)) ∧ Below w.heap.size w w' := by
  go_enter Try.func16, Try.ntmps16
  go_wp2_with fail
  refine (nameT41 _).mono ?_
  rintro e w1 ⟨rfl, hB⟩
  go_wp2
  go_ret
  exact ⟨rfl, hB⟩
theorem rgoes42 (a b : Nat) (w : World) : Calls Try.prog 12 #[.int .i64 42, .int .i64 a, .int .i64 b] w fun e w' => e = .returned (.tuple #[.bool (gB 42 a b), .bool (gIs 42)]) ∧ Below w.heap.size w w' := by
  go_enter Try.func12, Try.ntmps12
  go_wp2_with fail
  refine (nameT42 _).mono ?_
  rintro e w1 ⟨rfl, hB⟩
  go_wp2
  go_ret2
  exact ⟨rfl, hB⟩
theorem rwidth42 (w : World) : Calls Try.prog 14 #[.int .i64 42] w fun e w' => e = .returned (.int .i64 (wd 42)) ∧ Below w.heap.size w w' := by
  go_enter Try.func14, Try.ntmps14
  go_wp2_with fail
  refine (nameT42 _).mono ?_
  rintro e w1 ⟨rfl, hB⟩
  go_wp2
  go_ret
  exact ⟨rfl, hB⟩
theorem rwiden42 (x : Nat) (_hx : x < 4294967296) (w : World) : Calls Try.prog 16 #[.int .i64 42, .int .i64 x] w fun e w' => e = .returned (.int .i64 (we 42 x)) ∧ Below w.heap.size w w' := by
  go_enter Try.func16, Try.ntmps16
  go_wp2_with fail
  refine (nameT42 _).mono ?_
  rintro e w1 ⟨rfl, hB⟩
  go_wp2
  go_ret
  exact ⟨rfl, hB⟩
theorem rgoes43 (a b : Nat) (w : World) : Calls Try.prog 12 #[.int .i64 43, .int .i64 a, .int .i64 b] w fun e w' => e = .returned (.tuple #[.bool (gB 43 a b), .bool (gIs 43)]) ∧ Below w.heap.size w w' := by
  go_enter Try.func12, Try.ntmps12
  go_wp2_with fail
  refine (nameT43 _).mono ?_
  rintro e w1 ⟨rfl, hB⟩
  go_wp2
  go_ret2
  exact ⟨rfl, hB⟩
theorem rwidth43 (w : World) : Calls Try.prog 14 #[.int .i64 43] w fun e w' => e = .returned (.int .i64 (wd 43)) ∧ Below w.heap.size w w' := by
  go_enter Try.func14, Try.ntmps14
  go_wp2_with fail
  refine (nameT43 _).mono ?_
  rintro e w1 ⟨rfl, hB⟩
  go_wp2
  go_ret
  exact ⟨rfl, hB⟩
theorem rwiden43 (x : Nat) (_hx : x < 4294967296) (w : World) : Calls Try.prog 16 #[.int .i64 43, .int .i64 x] w fun e w' => e = .returned (.int .i64 (we 43 x)) ∧ Below w.heap.size w w' := by
  go_enter Try.func16, Try.ntmps16
  go_wp2_with fail
  refine (nameT43 _).mono ?_
  rintro e w1 ⟨rfl, hB⟩
  go_wp2
  go_ret
  exact ⟨rfl, hB⟩
theorem rgoes44 (a b : Nat) (w : World) : Calls Try.prog 12 #[.int .i64 44, .int .i64 a, .int .i64 b] w fun e w' => e = .returned (.tuple #[.bool (gB 44 a b), .bool (gIs 44)]) ∧ Below w.heap.size w w' := by
  go_enter Try.func12, Try.ntmps12
  go_wp2_with fail
  refine (nameT44 _).mono ?_
  rintro e w1 ⟨rfl, hB⟩
  go_wp2
  go_ret2
  exact ⟨rfl, hB⟩
theorem rwidth44 (w : World) : Calls Try.prog 14 #[.int .i64 44] w fun e w' => e = .returned (.int .i64 (wd 44)) ∧ Below w.heap.size w w' := by
  go_enter Try.func14, Try.ntmps14
  go_wp2_with fail
  refine (nameT44 _).mono ?_
  rintro e w1 ⟨rfl, hB⟩
  go_wp2
  go_ret
  exact ⟨rfl, hB⟩
theorem rwiden44 (x : Nat) (_hx : x < 4294967296) (w : World) : Calls Try.prog 16 #[.int .i64 44, .int .i64 x] w fun e w' => e = .returned (.int .i64 (we 44 x)) ∧ Below w.heap.size w w' := by
  go_enter Try.func16, Try.ntmps16
  go_wp2_with fail
  refine (nameT44 _).mono ?_
  rintro e w1 ⟨rfl, hB⟩
  go_wp2
  go_ret
  exact ⟨rfl, hB⟩
theorem rgoes45 (a b : Nat) (w : World) : Calls Try.prog 12 #[.int .i64 45, .int .i64 a, .int .i64 b] w fun e w' => e = .returned (.tuple #[.bool (gB 45 a b), .bool (gIs 45)]) ∧ Below w.heap.size w w' := by
  go_enter Try.func12, Try.ntmps12
  go_wp2_with fail
  refine (nameT45 _).mono ?_
  rintro e w1 ⟨rfl, hB⟩
  go_wp2
  go_ret2
  exact ⟨rfl, hB⟩
theorem rwidth45 (w : World) : Calls Try.prog 14 #[.int .i64 45] w fun e w' => e = .returned (.int .i64 (wd 45)) ∧ Below w.heap.size w w' := by
  go_enter Try.func14, Try.ntmps14
  go_wp2_with fail
  refine (nameT45 _).mono ?_
  rintro e w1 ⟨rfl, hB⟩
  go_wp2
  go_ret
  exact ⟨rfl, hB⟩
theorem rwiden45 (x : Nat) (_hx : x < 4294967296) (w : World) : Calls Try.prog 16 #[.int .i64 45, .int .i64 x] w fun e w' => e = .returned (.int .i64 (we 45 x)) ∧ Below w.heap.size w w' := by
  go_enter Try.func16, Try.ntmps16
  go_wp2_with fail
  refine (nameT45 _).mono ?_
  rintro e w1 ⟨rfl, hB⟩
  go_wp2
  go_ret
  exact ⟨rfl, hB⟩
theorem rgoes_out (k : Int) (a b : Nat) (hk : k < 1 ∨ 46 ≤ k) (w : World) : Calls Try.prog 12 #[.int .i64 k, .int .i64 a, .int .i64 b] w fun e w' => e = .returned (.tuple #[.bool false, .bool false]) ∧ Below w.heap.size w w' := by
  have hn := name_out k hk
  clear hk
  have HN := Lib.hid hn
  clear hn
  go_enter Try.func12, Try.ntmps12
  go_wp2_with fail
  refine (HN.out _).mono ?_
  rintro e w1 ⟨rfl, hB⟩
  go_wp2
  go_ret2
  exact ⟨rfl, hB⟩
theorem rwidth_out (k : Int) (hk : k < 1 ∨ 46 ≤ k) (w : World) : Calls Try.prog 14 #[.int .i64 k] w fun e w' => e = .returned (.int .i64 0) ∧ Below w.heap.size w w' := by
  have hn := name_out k hk
  clear hk
  have HN := Lib.hid hn
  clear hn
  go_enter Try.func14, Try.ntmps14
  go_wp2_with fail
  refine (HN.out _).mono ?_
  rintro e w1 ⟨rfl, hB⟩
  go_wp2
  go_ret
  exact ⟨rfl, hB⟩
theorem rwiden_out (k : Int) (x : Nat) (hk : k < 1 ∨ 46 ≤ k) (w : World) : Calls Try.prog 16 #[.int .i64 k, .int .i64 x] w fun e w' => e = .returned (.int .i64 (x : Int)) ∧ Below w.heap.size w w' := by
  have hn := name_out k hk
  clear hk
  have HN := Lib.hid hn
  clear hn
  go_enter Try.func16, Try.ntmps16
  go_wp2_with fail
  refine (HN.out _).mono ?_
  rintro e w1 ⟨rfl, hB⟩
  go_wp2
  go_ret
  exact ⟨rfl, hB⟩
end Go.Proofs.L
