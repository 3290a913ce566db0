/- Proved here: lemmas and contracts (OpsAll) for the laws of this seat, for all values of the stated types; no further condition. -/
import Derived.Test.YtenmnaibmmpfmaaOps
open Go Go.RowKit Go.Lib
namespace Go.Proofs.L
theorem reckon38 (a b : Nat) (ha : a < 4294967296) (hb : b < 4294967296) (w : World) : Calls Try.prog 9 #[.int .i64 38, .int .u32 a, .int .u32 b] w fun e w' => e = .returned (.tuple #[.int .u32 (vI 38 a b), .bool true]) ∧ w' = w := by
  go_enter Try.func9, Try.ntmps9
  go_wp2_with fail
  refine (muls38 a b ha hb _).mono ?_
  rintro e w1 ⟨rfl, rfl⟩
  go_wp2
  go_ret2
  exact ⟨rfl, rfl⟩
theorem reckon39 (a b : Nat) (ha : a < 4294967296) (hb : b < 4294967296) (w : World) : Calls Try.prog 9 #[.int .i64 39, .int .u32 a, .int .u32 b] w fun e w' => e = .returned (.tuple #[.int .u32 (vI 39 a b), .bool true]) ∧ w' = w := by
  go_enter Try.func9, Try.ntmps9
  go_wp2_with fail
  refine (muls39 a b ha hb _).mono ?_
  rintro e w1 ⟨rfl, rfl⟩
  go_wp2
  go_ret2
  exact ⟨rfl, rfl⟩
theorem reckon40 (a b : Nat) (ha : a < 4294967296) (hb : b < 4294967296) (w : World) : Calls Try.prog 9 #[.int .i64 40, .int .u32 a, .int .u32 b] w fun e w' => e = .returned (.tuple #[.int .u32 (vI 40 a b), .bool true]) ∧ w' = w := by
  go_enter Try.func9, Try.ntmps9
  go_wp2_with fail
  refine (muls40 a b ha hb _).mono ?_
  rintro e w1 ⟨rfl, rfl⟩
  go_wp2
  go_ret2
  exact ⟨rfl, rfl⟩
theorem reckon41 (a b : Nat) (ha : a < 4294967296) (hb : b < 4294967296) (w : World) : Calls Try.prog 9 #[.int .i64 41, .int .u32 a, .int .u32 b] w fun e w' => e = .returned (.tuple #[.int .u32 (vI 41 a b), .bool true]) ∧ w' = w := by
  go_enter Try.func9, Try.ntmps9
  go_wp2_with fail
  refine (muls41 a b ha hb _).mono ?_
  rintro e w1 ⟨rfl, rfl⟩
  go_wp2
  go_ret2
  exact ⟨rfl, rfl⟩
theorem reckon42 (a b : Nat) (ha : a < 4294967296) (hb : b < 4294967296) (w : World) : Calls Try.prog 9 #[.int .i64 42, .int .u32 a, .int .u32 b] w fun e w' => e = .returned (.tuple #[.int .u32 (vI 42 a b), .bool true]) ∧ w' = w := by
  go_enter Try.func9, Try.ntmps9
  go_wp2_with fail
  refine (muls42 a b ha hb _).mono ?_
  rintro e w1 ⟨rfl, rfl⟩
  go_wp2
  go_ret2
  exact ⟨rfl, rfl⟩
theorem reckon43 (a b : Nat) (ha : a < 4294967296) (hb : b < 4294967296) (w : World) : Calls Try.prog 9 #[.int .i64 43, .int .u32 a, .int .u32 b] w fun e w' => e = .returned (.tuple #[.int .u32 (vI 43 a b), .bool true]) ∧ w' = w := by
  go_enter Try.func9, Try.ntmps9
  go_wp2_with fail
  refine (muls43 a b ha hb _).mono ?_
  rintro e w1 ⟨rfl, rfl⟩
  go_wp2
  go_ret2
  exact ⟨rfl, rfl⟩
theorem reckon44 (a b : Nat) (ha : a < 4294967296) (hb : b < 4294967296) (w : World) : Calls Try.prog 9 #[.int .i64 44, .int .u32 a, .int .u32 b] w fun e w' => e = .returned (.tuple #[.int .u32 (vI 44 a b), .bool true]) ∧ w' = w := by
  go_enter Try.func9, Try.ntmps9
  go_wp2_with fail
  refine (muls44 a b ha hb _).mono ?_
  rintro e w1 ⟨rfl, rfl⟩
  go_wp2
  go_ret2
  exact ⟨rfl, rfl⟩
theorem reckon45 (a b : Nat) (ha : a < 4294967296) (hb : b < 4294967296) (w : World) : Calls Try.prog 9 #[.int .i64 45, .int .u32 a, .int .u32 b] w fun e w' => e = .returned (.tuple #[.int .u32 (vI 45 a b), .bool true]) ∧ w' = w := by
  go_enter Try.func9, Try.ntmps9
  go_wp2_with fail
  refine (muls45 a b ha hb _).mono ?_
  rintro e w1 ⟨rfl, rfl⟩
  go_wp2
  go_ret2
  exact ⟨rfl, rfl⟩
set_option maxHeartbeats 800000 in
theorem muls_out (k : Int) (a b : Nat) (hk : k < 19 ∨ 46 ≤ k) (w : World) : Calls Try.prog 20 #[.int .i64 k, .int .u32 a, .int .u32 b] w fun e w' => e = .returned (.tuple #[.int .u32 0, .bool false]) ∧ w' = w := by
  have d38 : (k == 38) = false := by simp; omega
  have d39 : (k == 39) = false := by simp; omega
  have d40 : (k == 40) = false := by simp; omega
  have d41 : (k == 41) = false := by simp; omega
  have d42 : (k == 42) = false := by simp; omega
  have d43 : (k == 43) = false := by simp; omega
  have d44 : (k == 44) = false := by simp; omega
  have d45 : (k == 45) = false := by simp; omega
  clear hk
  go_enter Try.func20, Try.ntmps20
  go_wp2
  go_ret2
  exact ⟨rfl, rfl⟩
set_option maxHeartbeats 800000 in
theorem reckon_out (k : Int) (a b : Nat) (hk : k < 19 ∨ 46 ≤ k) (w : World) : Calls Try.prog 9 #[.int .i64 k, .int .u32 a, .int .u32 b] w fun e w' => e = .returned (.tuple #[.int .u32 0, .bool false]) ∧ w' = w := by
  have hm := muls_out k a b hk w
  have d19 : (k == 19) = false := by simp; omega
  have d20 : (k == 20) = false := by simp; omega
  have d21 : (k == 21) = false := by simp; omega
  have d22 : (k == 22) = false := by simp; omega
  have d23 : (k == 23) = false := by simp; omega
  have d24 : (k == 24) = false := by simp; omega
  have d25 : (k == 25) = false := by simp; omega
  have d26 : (k == 26) = false := by simp; omega
  have d27 : (k == 27) = false := by simp; omega
  have d28 : (k == 28) = false := by simp; omega
  have d29 : (k == 29) = false := by simp; omega
  have d30 : (k == 30) = false := by simp; omega
  have d31 : (k == 31) = false := by simp; omega
  have d32 : (k == 32) = false := by simp; omega
  have d33 : (k == 33) = false := by simp; omega
  have d34 : (k == 34) = false := by simp; omega
  have d35 : (k == 35) = false := by simp; omega
  have d36 : (k == 36) = false := by simp; omega
  have d37 : (k == 37) = false := by simp; omega
  clear hk
  go_enter Try.func9, Try.ntmps9
  go_wp2_with fail
  refine hm.mono ?_
  rintro e w1 ⟨rfl, rfl⟩
  go_wp2
  go_ret2
  exact ⟨rfl, rfl⟩
/-- what every operation answers, and whether it is one -/
def isOp (k : Int) : Bool := decide (19 ≤ k ∧ k < 46)
theorem reckon_in (k : Nat) (a b : Nat) (ha : a < 4294967296) (hb : b < 4294967296) (h1 : 19 ≤ k) (h2 : k < 46) (w : World) :
    Calls Try.prog 9 #[.int .i64 k, .int .u32 a, .int .u32 b] w fun e w' => e = .returned (.tuple #[.int .u32 (vI k a b), .bool true]) ∧ w' = w := by
  have hk : k = 19 ∨ k = 20 ∨ k = 21 ∨ k = 22 ∨ k = 23 ∨ k = 24 ∨ k = 25 ∨ k = 26 ∨ k = 27 ∨ k = 28 ∨ k = 29 ∨ k = 30 ∨ k = 31 ∨ k = 32 ∨ k = 33 ∨ k = 34 ∨ k = 35 ∨ k = 36 ∨ k = 37 ∨ k = 38 ∨ k = 39 ∨ k = 40 ∨ k = 41 ∨ k = 42 ∨ k = 43 ∨ k = 44 ∨ k = 45 := by omega
  rcases hk with rfl | rfl | rfl | rfl | rfl | rfl | rfl | rfl | rfl | rfl | rfl | rfl | rfl | rfl | rfl | rfl | rfl | rfl | rfl | rfl | rfl | rfl | rfl | rfl | rfl | rfl | rfl
  · exact reckon19 a b ha hb w
  · exact reckon20 a b ha hb w
  · exact reckon21 a b ha hb w
  · exact reckon22 a b ha hb w
  · exact reckon23 a b ha hb w
  · exact reckon24 a b ha hb w
  · exact reckon25 a b ha hb w
  · exact reckon26 a b ha hb w
  · exact reckon27 a b ha hb w
  · exact reckon28 a b ha hb w
  · exact reckon29 a b ha hb w
  · exact reckon30 a b ha hb w
  · exact reckon31 a b ha hb w
  · exact reckon32 a b ha hb w
  · exact reckon33 a b ha hb w
  · exact reckon34 a b ha hb w
  · exact reckon35 a b ha hb w
  · exact reckon36 a b ha hb w
  · exact reckon37 a b ha hb w
  · exact reckon38 a b ha hb w
  · exact reckon39 a b ha hb w
  · exact reckon40 a b ha hb w
  · exact reckon41 a b ha hb w
  · exact reckon42 a b ha hb w
  · exact reckon43 a b ha hb w
  · exact reckon44 a b ha hb w
  · exact reckon45 a b ha hb w
end Go.Proofs.L
