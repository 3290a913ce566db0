/- Proved here: lemmas and contracts (Ops) for the laws of this seat, for all values of the stated types; no further condition. -/
import Derived.Test.YtenmnaibmmpfmaaBitwise
open Go Go.RowKit Go.Lib
namespace Go.Proofs.L
def sg (a : Nat) : Int := if a < 2147483648 then (a : Int) else (a : Int) - 4294967296
theorem sg_bd (a : Nat) (h : a < 4294967296) : -2147483648 ≤ sg a ∧ sg a < 2147483648 := by unfold sg; split <;> omega
theorem sg_wrap (a : Nat) (h : a < 4294967296) : wrap32 (a : Int) = sg a := by
  unfold wrap32 sg; split <;> omega
theorem sg_wrapK (a : Nat) (h : a < 4294967296) : IntKind.i32.wrap (a : Int) = sg a := by
  have : IntKind.i32.wrap (a : Int) = wrap32 (a : Int) := by simp [IntKind.wrap, IntKind.bits, IntKind.signed, wrap32]; split <;> omega
  rw [this, sg_wrap a h]
theorem u32w (x : Int) : IntKind.u32.wrap x = x % 4294967296 := by simp [IntKind.wrap, IntKind.bits, IntKind.signed]
theorem u64w (x : Int) : IntKind.u64.wrap x = x % 18446744073709551616 := by simp [IntKind.wrap, IntKind.bits, IntKind.signed]
theorem u32b (a : Nat) (h : a < 4294967296) : (BitVec.ofInt 32 (a : Int)).toNat = a := by
  rw [BitVec.ofInt_natCast, BitVec.toNat_ofNat]; exact Nat.mod_eq_of_lt h
theorem and32 (a b : Nat) (ha : a < 4294967296) (hb : b < 4294967296) : bits .and .u32 (a : Int) (b : Int) = ((a &&& b : Nat) : Int) := by
  show IntKind.u32.wrap ((BitVec.ofInt 32 (a : Int) &&& BitVec.ofInt 32 (b : Int)).toNat : Int) = _
  rw [BitVec.toNat_and, u32b a ha, u32b b hb, u32w]
  have := Nat.lt_of_le_of_lt (Nat.and_le_left (n := a) (m := b)) ha
  omega
theorem or32 (a b : Nat) (ha : a < 4294967296) (hb : b < 4294967296) : bits .or .u32 (a : Int) (b : Int) = ((a ||| b : Nat) : Int) := by
  show IntKind.u32.wrap ((BitVec.ofInt 32 (a : Int) ||| BitVec.ofInt 32 (b : Int)).toNat : Int) = _
  rw [BitVec.toNat_or, u32b a ha, u32b b hb, u32w]
  have := Nat.or_lt_two_pow (n := 32) ha hb
  omega
theorem xor32 (a b : Nat) (ha : a < 4294967296) (hb : b < 4294967296) : bits .xor .u32 (a : Int) (b : Int) = ((a ^^^ b : Nat) : Int) := by
  show IntKind.u32.wrap ((BitVec.ofInt 32 (a : Int) ^^^ BitVec.ofInt 32 (b : Int)).toNat : Int) = _
  rw [BitVec.toNat_xor, u32b a ha, u32b b hb, u32w]
  have := Nat.xor_lt_two_pow (n := 32) ha hb
  omega
theorem and31 (b : Nat) (hb : b < 4294967296) : bits .and .u32 (b : Int) 31 = ((b % 32 : Nat) : Int) := by
  have := and32 b 31 hb (by decide)
  rw [show ((31 : Nat) : Int) = 31 from rfl] at this
  rw [this, show b &&& 31 = b % 32 from Nat.and_two_pow_sub_one_eq_mod b 5]
theorem ret_p {k k' : IntKind} {a b : Int} {x : Bool} (h : a = b) : Ending.returned (.tuple #[.int k a, .bool x]) = .returned (.tuple #[.int k b, .bool x]) := by rw [h]
/-- what each operation answers -/
def vI (k a b : Nat) : Int :=
  if k = 28 ∨ k = 19 then ((a : Int) + b) % 4294967296 else if k = 29 then ((a : Int) - b) % 4294967296
  else if k = 30 ∨ k = 25 then ((a : Int) * 2 ^ (b % 32)) % 4294967296 else if k = 31 ∨ k = 20 then (if sg a < sg b then 1 else 0)
  else if k = 32 ∨ k = 21 then (if a < b then 1 else 0) else if k = 33 ∨ k = 22 then ((a ^^^ b : Nat) : Int)
  else if k = 34 ∨ k = 26 then (a : Int) / 2 ^ (b % 32) else if k = 35 ∨ k = 27 then (sg a / 2 ^ (b % 32)) % 4294967296
  else if k = 36 ∨ k = 23 then ((a ||| b : Nat) : Int) else if k = 37 ∨ k = 24 then ((a &&& b : Nat) : Int)
  else if k = 38 then ((a : Int) * b) % 4294967296 else if k = 39 then (sg a * sg b / 4294967296) % 4294967296
  else if k = 40 then (sg a * b / 4294967296) % 4294967296 else if k = 41 then ((a : Int) * b / 4294967296) % 4294967296
  else if k = 42 then (if b = 0 then 4294967295 else ((sg a).tdiv (sg b)) % 4294967296) else if k = 43 then (if b = 0 then 4294967295 else (a : Int) / b)
  else if k = 44 then (if b = 0 then (a : Int) else ((sg a).tmod (sg b)) % 4294967296) else if k = 45 then (if b = 0 then (a : Int) else (a : Int) % b) else 0
theorem w64m (z : Int) : wrap64 z % 4294967296 = z % 4294967296 := by unfold wrap64; omega
theorem sg_zero (b : Nat) (h : b < 4294967296) : sg b = 0 ↔ b = 0 := by unfold sg; split <;> omega
set_option maxHeartbeats 1600000 in
theorem reckon28 (a b : Nat) (ha : a < 4294967296) (hb : b < 4294967296) (w : World) : Calls Try.prog 9 #[.int .i64 28, .int .u32 a, .int .u32 b] w fun e w' => e = .returned (.tuple #[.int .u32 (vI 28 a b), .bool true]) ∧ w' = w := by
  go_enter Try.func9, Try.ntmps9
  go_wp2
  go_ret2
  refine ⟨?_, rfl⟩
  exact ret_p (k' := .u32) (u32w _)
set_option maxHeartbeats 1600000 in
theorem reckon19 (a b : Nat) (ha : a < 4294967296) (hb : b < 4294967296) (w : World) : Calls Try.prog 9 #[.int .i64 19, .int .u32 a, .int .u32 b] w fun e w' => e = .returned (.tuple #[.int .u32 (vI 19 a b), .bool true]) ∧ w' = w := by
  go_enter Try.func9, Try.ntmps9
  go_wp2
  go_ret2
  refine ⟨?_, rfl⟩
  exact ret_p (k' := .u32) (u32w _)
set_option maxHeartbeats 1600000 in
theorem reckon29 (a b : Nat) (ha : a < 4294967296) (hb : b < 4294967296) (w : World) : Calls Try.prog 9 #[.int .i64 29, .int .u32 a, .int .u32 b] w fun e w' => e = .returned (.tuple #[.int .u32 (vI 29 a b), .bool true]) ∧ w' = w := by
  go_enter Try.func9, Try.ntmps9
  go_wp2
  go_ret2
  refine ⟨?_, rfl⟩
  exact ret_p (k' := .u32) (u32w _)
set_option maxHeartbeats 1600000 in
theorem reckon30 (a b : Nat) (ha : a < 4294967296) (hb : b < 4294967296) (w : World) : Calls Try.prog 9 #[.int .i64 30, .int .u32 a, .int .u32 b] w fun e w' => e = .returned (.tuple #[.int .u32 (vI 30 a b), .bool true]) ∧ w' = w := by
  have e2 := and31 b hb
  obtain ⟨n, hn⟩ : ∃ n, n = b % 32 := ⟨_, rfl⟩
  rw [← hn] at e2
  have n1 : n < 32 := by omega
  have HN := Lib.hid hn
  clear hn
  go_enter Try.func9, Try.ntmps9
  go_wp2
  go_ret2
  refine ⟨?_, rfl⟩
  exact ret_p (k' := .u32) ((u32w _).trans (by rw [HN.out]; rfl))
set_option maxHeartbeats 1600000 in
theorem reckon25 (a b : Nat) (ha : a < 4294967296) (hb : b < 4294967296) (w : World) : Calls Try.prog 9 #[.int .i64 25, .int .u32 a, .int .u32 b] w fun e w' => e = .returned (.tuple #[.int .u32 (vI 25 a b), .bool true]) ∧ w' = w := by
  have e2 := and31 b hb
  obtain ⟨n, hn⟩ : ∃ n, n = b % 32 := ⟨_, rfl⟩
  rw [← hn] at e2
  have n1 : n < 32 := by omega
  have HN := Lib.hid hn
  clear hn
  go_enter Try.func9, Try.ntmps9
  go_wp2
  go_ret2
  refine ⟨?_, rfl⟩
  exact ret_p (k' := .u32) ((u32w _).trans (by rw [HN.out]; rfl))
set_option maxHeartbeats 1600000 in
theorem reckon31 (a b : Nat) (ha : a < 4294967296) (hb : b < 4294967296) (w : World) : Calls Try.prog 9 #[.int .i64 31, .int .u32 a, .int .u32 b] w fun e w' => e = .returned (.tuple #[.int .u32 (vI 31 a b), .bool true]) ∧ w' = w := by
  have x1 := sg_bd a ha
  have e1 := sg_wrap a ha
  have e1' := sg_wrapK a ha
  obtain ⟨x, hx⟩ : ∃ x, x = sg a := ⟨_, rfl⟩
  rw [← hx] at x1 e1 e1'
  have HX := Lib.hid hx
  clear hx
  obtain ⟨x1, x2⟩ := x1
  have y1 := sg_bd b hb
  have f1 := sg_wrap b hb
  have f1' := sg_wrapK b hb
  obtain ⟨y, hy⟩ : ∃ y, y = sg b := ⟨_, rfl⟩
  rw [← hy] at y1 f1 f1'
  have HY := Lib.hid hy
  clear hy
  obtain ⟨y1, y2⟩ := y1
  by_cases h : x < y
  · have hd : decide (x < y) = true := by simpa using h
    have hd' : decide (x < y) = true := by simpa using h
    have H := Lib.hid h
    clear h
    go_enter Try.func9, Try.ntmps9
    go_wp2_with fail
    refine (truth32_any _ _).mono ?_
    rintro e w1 ⟨rfl, rfl⟩
    go_wp2
    go_ret2
    exact ⟨ret_p (k' := .u32) (by rw [show vI 31 a b = (if sg a < sg b then 1 else 0) from rfl, ← HX.out, ← HY.out, if_pos (by have := H.out; omega)]), rfl⟩
  · have hd : decide (x < y) = false := by simpa using h
    have hd' : decide (x < y) = false := by simpa using h
    have H := Lib.hid h
    clear h
    go_enter Try.func9, Try.ntmps9
    go_wp2_with fail
    refine (truth32_any _ _).mono ?_
    rintro e w1 ⟨rfl, rfl⟩
    go_wp2
    go_ret2
    exact ⟨ret_p (k' := .u32) (by rw [show vI 31 a b = (if sg a < sg b then 1 else 0) from rfl, ← HX.out, ← HY.out, if_neg (by have := H.out; omega)]), rfl⟩
set_option maxHeartbeats 1600000 in
theorem reckon20 (a b : Nat) (ha : a < 4294967296) (hb : b < 4294967296) (w : World) : Calls Try.prog 9 #[.int .i64 20, .int .u32 a, .int .u32 b] w fun e w' => e = .returned (.tuple #[.int .u32 (vI 20 a b), .bool true]) ∧ w' = w := by
  have x1 := sg_bd a ha
  have e1 := sg_wrap a ha
  have e1' := sg_wrapK a ha
  obtain ⟨x, hx⟩ : ∃ x, x = sg a := ⟨_, rfl⟩
  rw [← hx] at x1 e1 e1'
  have HX := Lib.hid hx
  clear hx
  obtain ⟨x1, x2⟩ := x1
  have y1 := sg_bd b hb
  have f1 := sg_wrap b hb
  have f1' := sg_wrapK b hb
  obtain ⟨y, hy⟩ : ∃ y, y = sg b := ⟨_, rfl⟩
  rw [← hy] at y1 f1 f1'
  have HY := Lib.hid hy
  clear hy
  obtain ⟨y1, y2⟩ := y1
  by_cases h : x < y
  · have hd : decide (x < y) = true := by simpa using h
    have hd' : decide (x < y) = true := by simpa using h
    have H := Lib.hid h
    clear h
    go_enter Try.func9, Try.ntmps9
    go_wp2_with fail
    refine (truth32_any _ _).mono ?_
    rintro e w1 ⟨rfl, rfl⟩
    go_wp2
    go_ret2
    exact ⟨ret_p (k' := .u32) (by rw [show vI 20 a b = (if sg a < sg b then 1 else 0) from rfl, ← HX.out, ← HY.out, if_pos (by have := H.out; omega)]), rfl⟩
  · have hd : decide (x < y) = false := by simpa using h
    have hd' : decide (x < y) = false := by simpa using h
    have H := Lib.hid h
    clear h
    go_enter Try.func9, Try.ntmps9
    go_wp2_with fail
    refine (truth32_any _ _).mono ?_
    rintro e w1 ⟨rfl, rfl⟩
    go_wp2
    go_ret2
    exact ⟨ret_p (k' := .u32) (by rw [show vI 20 a b = (if sg a < sg b then 1 else 0) from rfl, ← HX.out, ← HY.out, if_neg (by have := H.out; omega)]), rfl⟩
set_option maxHeartbeats 1600000 in
theorem reckon32 (a b : Nat) (ha : a < 4294967296) (hb : b < 4294967296) (w : World) : Calls Try.prog 9 #[.int .i64 32, .int .u32 a, .int .u32 b] w fun e w' => e = .returned (.tuple #[.int .u32 (vI 32 a b), .bool true]) ∧ w' = w := by
  by_cases h : (a : Int) < (b : Int)
  · have hd : decide ((a : Int) < (b : Int)) = true := by simpa using h
    have hd' : decide (a < b) = true := by simpa using h
    have H := Lib.hid h
    clear h
    go_enter Try.func9, Try.ntmps9
    go_wp2_with fail
    refine (truth32_any _ _).mono ?_
    rintro e w1 ⟨rfl, rfl⟩
    go_wp2
    go_ret2
    exact ⟨ret_p (k' := .u32) (by rw [show vI 32 a b = (if a < b then 1 else 0) from rfl, if_pos (by have := H.out; omega)]), rfl⟩
  · have hd : decide ((a : Int) < (b : Int)) = false := by simpa using h
    have hd' : decide (a < b) = false := by simpa using h
    have H := Lib.hid h
    clear h
    go_enter Try.func9, Try.ntmps9
    go_wp2_with fail
    refine (truth32_any _ _).mono ?_
    rintro e w1 ⟨rfl, rfl⟩
    go_wp2
    go_ret2
    exact ⟨ret_p (k' := .u32) (by rw [show vI 32 a b = (if a < b then 1 else 0) from rfl, if_neg (by have := H.out; omega)]), rfl⟩
set_option maxHeartbeats 1600000 in
theorem reckon21 (a b : Nat) (ha : a < 4294967296) (hb : b < 4294967296) (w : World) : Calls Try.prog 9 #[.int .i64 21, .int .u32 a, .int .u32 b] w fun e w' => e = .returned (.tuple #[.int .u32 (vI 21 a b), .bool true]) ∧ w' = w := by
  by_cases h : (a : Int) < (b : Int)
  · have hd : decide ((a : Int) < (b : Int)) = true := by simpa using h
    have hd' : decide (a < b) = true := by simpa using h
    have H := Lib.hid h
    clear h
    go_enter Try.func9, Try.ntmps9
    go_wp2_with fail
    refine (truth32_any _ _).mono ?_
    rintro e w1 ⟨rfl, rfl⟩
    go_wp2
    go_ret2
    exact ⟨ret_p (k' := .u32) (by rw [show vI 21 a b = (if a < b then 1 else 0) from rfl, if_pos (by have := H.out; omega)]), rfl⟩
  · have hd : decide ((a : Int) < (b : Int)) = false := by simpa using h
    have hd' : decide (a < b) = false := by simpa using h
    have H := Lib.hid h
    clear h
    go_enter Try.func9, Try.ntmps9
    go_wp2_with fail
    refine (truth32_any _ _).mono ?_
    rintro e w1 ⟨rfl, rfl⟩
    go_wp2
    go_ret2
    exact ⟨ret_p (k' := .u32) (by rw [show vI 21 a b = (if a < b then 1 else 0) from rfl, if_neg (by have := H.out; omega)]), rfl⟩
set_option maxHeartbeats 1600000 in
theorem reckon33 (a b : Nat) (ha : a < 4294967296) (hb : b < 4294967296) (w : World) : Calls Try.prog 9 #[.int .i64 33, .int .u32 a, .int .u32 b] w fun e w' => e = .returned (.tuple #[.int .u32 (vI 33 a b), .bool true]) ∧ w' = w := by
  go_enter Try.func9, Try.ntmps9
  go_wp2
  go_ret2
  refine ⟨?_, rfl⟩
  exact ret_p (k' := .u32) (xor32 a b ha hb)
set_option maxHeartbeats 1600000 in
theorem reckon22 (a b : Nat) (ha : a < 4294967296) (hb : b < 4294967296) (w : World) : Calls Try.prog 9 #[.int .i64 22, .int .u32 a, .int .u32 b] w fun e w' => e = .returned (.tuple #[.int .u32 (vI 22 a b), .bool true]) ∧ w' = w := by
  go_enter Try.func9, Try.ntmps9
  go_wp2
  go_ret2
  refine ⟨?_, rfl⟩
  exact ret_p (k' := .u32) (xor32 a b ha hb)
set_option maxHeartbeats 1600000 in
theorem reckon36 (a b : Nat) (ha : a < 4294967296) (hb : b < 4294967296) (w : World) : Calls Try.prog 9 #[.int .i64 36, .int .u32 a, .int .u32 b] w fun e w' => e = .returned (.tuple #[.int .u32 (vI 36 a b), .bool true]) ∧ w' = w := by
  go_enter Try.func9, Try.ntmps9
  go_wp2
  go_ret2
  refine ⟨?_, rfl⟩
  exact ret_p (k' := .u32) (or32 a b ha hb)
set_option maxHeartbeats 1600000 in
theorem reckon23 (a b : Nat) (ha : a < 4294967296) (hb : b < 4294967296) (w : World) : Calls Try.prog 9 #[.int .i64 23, .int .u32 a, .int .u32 b] w fun e w' => e = .returned (.tuple #[.int .u32 (vI 23 a b), .bool true]) ∧ w' = w := by
  go_enter Try.func9, Try.ntmps9
  go_wp2
  go_ret2
  refine ⟨?_, rfl⟩
  exact ret_p (k' := .u32) (or32 a b ha hb)
set_option maxHeartbeats 1600000 in
theorem reckon37 (a b : Nat) (ha : a < 4294967296) (hb : b < 4294967296) (w : World) : Calls Try.prog 9 #[.int .i64 37, .int .u32 a, .int .u32 b] w fun e w' => e = .returned (.tuple #[.int .u32 (vI 37 a b), .bool true]) ∧ w' = w := by
  go_enter Try.func9, Try.ntmps9
  go_wp2
  go_ret2
  refine ⟨?_, rfl⟩
  exact ret_p (k' := .u32) (and32 a b ha hb)
set_option maxHeartbeats 1600000 in
theorem reckon24 (a b : Nat) (ha : a < 4294967296) (hb : b < 4294967296) (w : World) : Calls Try.prog 9 #[.int .i64 24, .int .u32 a, .int .u32 b] w fun e w' => e = .returned (.tuple #[.int .u32 (vI 24 a b), .bool true]) ∧ w' = w := by
  go_enter Try.func9, Try.ntmps9
  go_wp2
  go_ret2
  refine ⟨?_, rfl⟩
  exact ret_p (k' := .u32) (and32 a b ha hb)
set_option maxHeartbeats 1600000 in
theorem reckon34 (a b : Nat) (ha : a < 4294967296) (hb : b < 4294967296) (w : World) : Calls Try.prog 9 #[.int .i64 34, .int .u32 a, .int .u32 b] w fun e w' => e = .returned (.tuple #[.int .u32 (vI 34 a b), .bool true]) ∧ w' = w := by
  have e2 := and31 b hb
  obtain ⟨n, hn⟩ : ∃ n, n = b % 32 := ⟨_, rfl⟩
  rw [← hn] at e2
  have n1 : n < 32 := by omega
  have HN := Lib.hid hn
  clear hn
  go_enter Try.func9, Try.ntmps9
  go_wp2
  go_ret2
  refine ⟨?_, rfl⟩
  exact ret_p (k' := .u32) (by rw [HN.out]; rfl)
set_option maxHeartbeats 1600000 in
theorem reckon26 (a b : Nat) (ha : a < 4294967296) (hb : b < 4294967296) (w : World) : Calls Try.prog 9 #[.int .i64 26, .int .u32 a, .int .u32 b] w fun e w' => e = .returned (.tuple #[.int .u32 (vI 26 a b), .bool true]) ∧ w' = w := by
  have e2 := and31 b hb
  obtain ⟨n, hn⟩ : ∃ n, n = b % 32 := ⟨_, rfl⟩
  rw [← hn] at e2
  have n1 : n < 32 := by omega
  have HN := Lib.hid hn
  clear hn
  go_enter Try.func9, Try.ntmps9
  go_wp2
  go_ret2
  refine ⟨?_, rfl⟩
  exact ret_p (k' := .u32) (by rw [HN.out]; rfl)
set_option maxHeartbeats 1600000 in
theorem reckon35 (a b : Nat) (ha : a < 4294967296) (hb : b < 4294967296) (w : World) : Calls Try.prog 9 #[.int .i64 35, .int .u32 a, .int .u32 b] w fun e w' => e = .returned (.tuple #[.int .u32 (vI 35 a b), .bool true]) ∧ w' = w := by
  have x1 := sg_bd a ha
  have e1 := sg_wrap a ha
  have e1' := sg_wrapK a ha
  obtain ⟨x, hx⟩ : ∃ x, x = sg a := ⟨_, rfl⟩
  rw [← hx] at x1 e1 e1'
  have HX := Lib.hid hx
  clear hx
  obtain ⟨x1, x2⟩ := x1
  have e2 := and31 b hb
  obtain ⟨n, hn⟩ : ∃ n, n = b % 32 := ⟨_, rfl⟩
  rw [← hn] at e2
  have n1 : n < 32 := by omega
  have HN := Lib.hid hn
  clear hn
  go_enter Try.func9, Try.ntmps9
  go_wp2
  go_ret2
  refine ⟨?_, rfl⟩
  exact ret_p (k' := .u32) ((u32w _).trans (by rw [HN.out, HX.out]; rfl))
set_option maxHeartbeats 1600000 in
theorem reckon27 (a b : Nat) (ha : a < 4294967296) (hb : b < 4294967296) (w : World) : Calls Try.prog 9 #[.int .i64 27, .int .u32 a, .int .u32 b] w fun e w' => e = .returned (.tuple #[.int .u32 (vI 27 a b), .bool true]) ∧ w' = w := by
  have x1 := sg_bd a ha
  have e1 := sg_wrap a ha
  have e1' := sg_wrapK a ha
  obtain ⟨x, hx⟩ : ∃ x, x = sg a := ⟨_, rfl⟩
  rw [← hx] at x1 e1 e1'
  have HX := Lib.hid hx
  clear hx
  obtain ⟨x1, x2⟩ := x1
  have e2 := and31 b hb
  obtain ⟨n, hn⟩ : ∃ n, n = b % 32 := ⟨_, rfl⟩
  rw [← hn] at e2
  have n1 : n < 32 := by omega
  have HN := Lib.hid hn
  clear hn
  go_enter Try.func9, Try.ntmps9
  go_wp2
  go_ret2
  refine ⟨?_, rfl⟩
  exact ret_p (k' := .u32) ((u32w _).trans (by rw [HN.out, HX.out]; rfl))
set_option maxHeartbeats 1600000 in
theorem muls38 (a b : Nat) (ha : a < 4294967296) (hb : b < 4294967296) (w : World) : Calls Try.prog 20 #[.int .i64 38, .int .u32 a, .int .u32 b] w fun e w' => e = .returned (.tuple #[.int .u32 (vI 38 a b), .bool true]) ∧ w' = w := by
  have x1 := sg_bd a ha
  have e1 := sg_wrap a ha
  have e1' := sg_wrapK a ha
  obtain ⟨x, hx⟩ : ∃ x, x = sg a := ⟨_, rfl⟩
  rw [← hx] at x1 e1 e1'
  have HX := Lib.hid hx
  clear hx
  obtain ⟨x1, x2⟩ := x1
  have y1 := sg_bd b hb
  have f1 := sg_wrap b hb
  have f1' := sg_wrapK b hb
  obtain ⟨y, hy⟩ : ∃ y, y = sg b := ⟨_, rfl⟩
  rw [← hy] at y1 f1 f1'
  have HY := Lib.hid hy
  clear hy
  obtain ⟨y1, y2⟩ := y1
  go_enter Try.func20, Try.ntmps20
  go_wp2
  go_ret2
  refine ⟨?_, rfl⟩
  exact ret_p (k' := .u32) (u32w _)
set_option maxHeartbeats 1600000 in
theorem muls39 (a b : Nat) (ha : a < 4294967296) (hb : b < 4294967296) (w : World) : Calls Try.prog 20 #[.int .i64 39, .int .u32 a, .int .u32 b] w fun e w' => e = .returned (.tuple #[.int .u32 (vI 39 a b), .bool true]) ∧ w' = w := by
  have x1 := sg_bd a ha
  have e1 := sg_wrap a ha
  have e1' := sg_wrapK a ha
  obtain ⟨x, hx⟩ : ∃ x, x = sg a := ⟨_, rfl⟩
  rw [← hx] at x1 e1 e1'
  have HX := Lib.hid hx
  clear hx
  obtain ⟨x1, x2⟩ := x1
  have y1 := sg_bd b hb
  have f1 := sg_wrap b hb
  have f1' := sg_wrapK b hb
  obtain ⟨y, hy⟩ : ∃ y, y = sg b := ⟨_, rfl⟩
  rw [← hy] at y1 f1 f1'
  have HY := Lib.hid hy
  clear hy
  obtain ⟨y1, y2⟩ := y1
  have m1 := mul_bd 2147483648 2147483648 (a := x) (b := y) (by omega) (by omega) (by omega) (by omega)
  have m2 : wrap64 (x * y) = x * y := IntWalk.wrap64_in _ (by omega)
  have m3 : IntKind.i64.wrap (x * y) = x * y := IntWalk.i64_in _ (by omega)
  clear m1
  go_enter Try.func20, Try.ntmps20
  go_wp2
  go_ret2
  refine ⟨?_, rfl⟩
  exact ret_p (k' := .u32) (by rw [HX.out, HY.out]; rfl)
set_option maxHeartbeats 1600000 in
theorem muls40 (a b : Nat) (ha : a < 4294967296) (hb : b < 4294967296) (w : World) : Calls Try.prog 20 #[.int .i64 40, .int .u32 a, .int .u32 b] w fun e w' => e = .returned (.tuple #[.int .u32 (vI 40 a b), .bool true]) ∧ w' = w := by
  have x1 := sg_bd a ha
  have e1 := sg_wrap a ha
  have e1' := sg_wrapK a ha
  obtain ⟨x, hx⟩ : ∃ x, x = sg a := ⟨_, rfl⟩
  rw [← hx] at x1 e1 e1'
  have HX := Lib.hid hx
  clear hx
  obtain ⟨x1, x2⟩ := x1
  have y1 := sg_bd b hb
  have f1 := sg_wrap b hb
  have f1' := sg_wrapK b hb
  obtain ⟨y, hy⟩ : ∃ y, y = sg b := ⟨_, rfl⟩
  rw [← hy] at y1 f1 f1'
  have HY := Lib.hid hy
  clear hy
  obtain ⟨y1, y2⟩ := y1
  have m1 := mul_bd 2147483648 4294967295 (a := x) (b := (b : Int)) (by omega) (by omega) (by omega) (by omega)
  have m2 : wrap64 (x * (b : Int)) = x * (b : Int) := IntWalk.wrap64_in _ (by omega)
  have m3 : IntKind.i64.wrap (x * (b : Int)) = x * (b : Int) := IntWalk.i64_in _ (by omega)
  clear m1
  go_enter Try.func20, Try.ntmps20
  go_wp2
  go_ret2
  refine ⟨?_, rfl⟩
  exact ret_p (k' := .u32) (by rw [HX.out]; rfl)
set_option maxHeartbeats 1600000 in
theorem muls41 (a b : Nat) (ha : a < 4294967296) (hb : b < 4294967296) (w : World) : Calls Try.prog 20 #[.int .i64 41, .int .u32 a, .int .u32 b] w fun e w' => e = .returned (.tuple #[.int .u32 (vI 41 a b), .bool true]) ∧ w' = w := by
  have x1 := sg_bd a ha
  have e1 := sg_wrap a ha
  have e1' := sg_wrapK a ha
  obtain ⟨x, hx⟩ : ∃ x, x = sg a := ⟨_, rfl⟩
  rw [← hx] at x1 e1 e1'
  have HX := Lib.hid hx
  clear hx
  obtain ⟨x1, x2⟩ := x1
  have y1 := sg_bd b hb
  have f1 := sg_wrap b hb
  have f1' := sg_wrapK b hb
  obtain ⟨y, hy⟩ : ∃ y, y = sg b := ⟨_, rfl⟩
  rw [← hy] at y1 f1 f1'
  have HY := Lib.hid hy
  clear hy
  obtain ⟨y1, y2⟩ := y1
  have m1 := mul_bd 4294967295 4294967295 (a := (a : Int)) (b := (b : Int)) (by omega) (by omega) (by omega) (by omega)
  have m0 : (0 : Int) ≤ (a : Int) * b := Int.mul_nonneg (by omega) (by omega)
  have m3 : IntKind.u64.wrap ((a : Int) * b) = (a : Int) * b := by rw [u64w]; omega
  clear m1
  go_enter Try.func20, Try.ntmps20
  go_wp2
  go_ret2
  refine ⟨?_, rfl⟩
  exact ret_p (k' := .u32) (by first | rfl | exact u32w _)
set_option maxHeartbeats 1600000 in
theorem muls42 (a b : Nat) (ha : a < 4294967296) (hb : b < 4294967296) (w : World) : Calls Try.prog 20 #[.int .i64 42, .int .u32 a, .int .u32 b] w fun e w' => e = .returned (.tuple #[.int .u32 (vI 42 a b), .bool true]) ∧ w' = w := by
  have x1 := sg_bd a ha
  have e1 := sg_wrap a ha
  have e1' := sg_wrapK a ha
  obtain ⟨x, hx⟩ : ∃ x, x = sg a := ⟨_, rfl⟩
  rw [← hx] at x1 e1 e1'
  have HX := Lib.hid hx
  clear hx
  obtain ⟨x1, x2⟩ := x1
  have y1 := sg_bd b hb
  have f1 := sg_wrap b hb
  have f1' := sg_wrapK b hb
  obtain ⟨y, hy⟩ : ∃ y, y = sg b := ⟨_, rfl⟩
  rw [← hy] at y1 f1 f1'
  have HY := Lib.hid hy
  clear hy
  obtain ⟨y1, y2⟩ := y1
  by_cases hz : b = 0
  · have hz1 : ((b : Int) == 0) = true := by simpa using hz
    have HZ := Lib.hid hz
    clear hz
    go_enter Try.func20, Try.ntmps20
    go_wp2
    go_ret2
    exact ⟨ret_p (k' := .u32) (by rw [show vI 42 a b = (if b = 0 then 4294967295 else ((sg a).tdiv (sg b)) % 4294967296) from rfl, if_pos HZ.out]), rfl⟩
  · have hz1 : ((b : Int) == 0) = false := by simpa using hz
    have hz2 : ¬ (b : Int) = 0 := by omega
    have hz3 : ¬ y = 0 := fun e => hz ((sg_zero b hb).1 (by rw [← HY.out]; exact e))
    have HZ := Lib.hid hz
    clear hz
    go_enter Try.func20, Try.ntmps20
    go_wp2
    go_ret2
    exact ⟨ret_p (k' := .u32) (by rw [show vI 42 a b = (if b = 0 then 4294967295 else ((sg a).tdiv (sg b)) % 4294967296) from rfl, if_neg HZ.out]; rw [← HX.out, ← HY.out]; exact w64m _), rfl⟩
set_option maxHeartbeats 1600000 in
theorem muls43 (a b : Nat) (ha : a < 4294967296) (hb : b < 4294967296) (w : World) : Calls Try.prog 20 #[.int .i64 43, .int .u32 a, .int .u32 b] w fun e w' => e = .returned (.tuple #[.int .u32 (vI 43 a b), .bool true]) ∧ w' = w := by
  have x1 := sg_bd a ha
  have e1 := sg_wrap a ha
  have e1' := sg_wrapK a ha
  obtain ⟨x, hx⟩ : ∃ x, x = sg a := ⟨_, rfl⟩
  rw [← hx] at x1 e1 e1'
  have HX := Lib.hid hx
  clear hx
  obtain ⟨x1, x2⟩ := x1
  have y1 := sg_bd b hb
  have f1 := sg_wrap b hb
  have f1' := sg_wrapK b hb
  obtain ⟨y, hy⟩ : ∃ y, y = sg b := ⟨_, rfl⟩
  rw [← hy] at y1 f1 f1'
  have HY := Lib.hid hy
  clear hy
  obtain ⟨y1, y2⟩ := y1
  by_cases hz : b = 0
  · have hz1 : ((b : Int) == 0) = true := by simpa using hz
    have HZ := Lib.hid hz
    clear hz
    go_enter Try.func20, Try.ntmps20
    go_wp2
    go_ret2
    exact ⟨ret_p (k' := .u32) (by rw [show vI 43 a b = (if b = 0 then 4294967295 else (a : Int) / b) from rfl, if_pos HZ.out]), rfl⟩
  · have hz1 : ((b : Int) == 0) = false := by simpa using hz
    have hz2 : ¬ (b : Int) = 0 := by omega
    have hz3 : ¬ y = 0 := fun e => hz ((sg_zero b hb).1 (by rw [← HY.out]; exact e))
    have HZ := Lib.hid hz
    clear hz
    go_enter Try.func20, Try.ntmps20
    go_wp2
    go_ret2
    exact ⟨ret_p (k' := .u32) (by rw [show vI 43 a b = (if b = 0 then 4294967295 else (a : Int) / b) from rfl, if_neg HZ.out]; exact Int.emod_eq_of_lt (Int.ediv_nonneg (by omega) (by omega)) (Int.lt_of_le_of_lt (Int.ediv_le_self _ (by omega)) (by omega))), rfl⟩
set_option maxHeartbeats 1600000 in
theorem muls44 (a b : Nat) (ha : a < 4294967296) (hb : b < 4294967296) (w : World) : Calls Try.prog 20 #[.int .i64 44, .int .u32 a, .int .u32 b] w fun e w' => e = .returned (.tuple #[.int .u32 (vI 44 a b), .bool true]) ∧ w' = w := by
  have x1 := sg_bd a ha
  have e1 := sg_wrap a ha
  have e1' := sg_wrapK a ha
  obtain ⟨x, hx⟩ : ∃ x, x = sg a := ⟨_, rfl⟩
  rw [← hx] at x1 e1 e1'
  have HX := Lib.hid hx
  clear hx
  obtain ⟨x1, x2⟩ := x1
  have y1 := sg_bd b hb
  have f1 := sg_wrap b hb
  have f1' := sg_wrapK b hb
  obtain ⟨y, hy⟩ : ∃ y, y = sg b := ⟨_, rfl⟩
  rw [← hy] at y1 f1 f1'
  have HY := Lib.hid hy
  clear hy
  obtain ⟨y1, y2⟩ := y1
  by_cases hz : b = 0
  · have hz1 : ((b : Int) == 0) = true := by simpa using hz
    have HZ := Lib.hid hz
    clear hz
    go_enter Try.func20, Try.ntmps20
    go_wp2
    go_ret2
    exact ⟨ret_p (k' := .u32) (by rw [show vI 44 a b = (if b = 0 then (a : Int) else ((sg a).tmod (sg b)) % 4294967296) from rfl, if_pos HZ.out]), rfl⟩
  · have hz1 : ((b : Int) == 0) = false := by simpa using hz
    have hz2 : ¬ (b : Int) = 0 := by omega
    have hz3 : ¬ y = 0 := fun e => hz ((sg_zero b hb).1 (by rw [← HY.out]; exact e))
    have HZ := Lib.hid hz
    clear hz
    go_enter Try.func20, Try.ntmps20
    go_wp2
    go_ret2
    exact ⟨ret_p (k' := .u32) (by rw [show vI 44 a b = (if b = 0 then (a : Int) else ((sg a).tmod (sg b)) % 4294967296) from rfl, if_neg HZ.out]; rw [← HX.out, ← HY.out]), rfl⟩
set_option maxHeartbeats 1600000 in
theorem muls45 (a b : Nat) (ha : a < 4294967296) (hb : b < 4294967296) (w : World) : Calls Try.prog 20 #[.int .i64 45, .int .u32 a, .int .u32 b] w fun e w' => e = .returned (.tuple #[.int .u32 (vI 45 a b), .bool true]) ∧ w' = w := by
  have x1 := sg_bd a ha
  have e1 := sg_wrap a ha
  have e1' := sg_wrapK a ha
  obtain ⟨x, hx⟩ : ∃ x, x = sg a := ⟨_, rfl⟩
  rw [← hx] at x1 e1 e1'
  have HX := Lib.hid hx
  clear hx
  obtain ⟨x1, x2⟩ := x1
  have y1 := sg_bd b hb
  have f1 := sg_wrap b hb
  have f1' := sg_wrapK b hb
  obtain ⟨y, hy⟩ : ∃ y, y = sg b := ⟨_, rfl⟩
  rw [← hy] at y1 f1 f1'
  have HY := Lib.hid hy
  clear hy
  obtain ⟨y1, y2⟩ := y1
  by_cases hz : b = 0
  · have hz1 : ((b : Int) == 0) = true := by simpa using hz
    have HZ := Lib.hid hz
    clear hz
    go_enter Try.func20, Try.ntmps20
    go_wp2
    go_ret2
    exact ⟨ret_p (k' := .u32) (by rw [show vI 45 a b = (if b = 0 then (a : Int) else (a : Int) % b) from rfl, if_pos HZ.out]), rfl⟩
  · have hz1 : ((b : Int) == 0) = false := by simpa using hz
    have hz2 : ¬ (b : Int) = 0 := by omega
    have hz3 : ¬ y = 0 := fun e => hz ((sg_zero b hb).1 (by rw [← HY.out]; exact e))
    have HZ := Lib.hid hz
    clear hz
    go_enter Try.func20, Try.ntmps20
    go_wp2
    go_ret2
    exact ⟨ret_p (k' := .u32) (by rw [show vI 45 a b = (if b = 0 then (a : Int) else (a : Int) % b) from rfl, if_neg HZ.out]; skip), rfl⟩
end Go.Proofs.L
