/- Proved here: lemmas and contracts (Goes) for the laws of this seat, for all values of the stated types; no further condition. -/
import Derived.Test.YtenmnaibmmpfmaaRefOps
open Go Go.RowKit Go.Lib
namespace Go.Proofs.L
def gB (k : Int) (a b : Nat) : Bool := if k = 5 then decide (a = b) else if k = 6 then decide (a ≠ b) else if k = 7 then decide (sg a < sg b) else if k = 8 then decide (sg b ≤ sg a) else if k = 9 then decide (a < b) else if k = 10 then decide (b ≤ a) else false
def gIs (k : Int) : Bool := decide (5 ≤ k ∧ k ≤ 10)
def wd (k : Int) : Int := if k = 11 ∨ k = 14 ∨ k = 16 then 1 else if k = 12 ∨ k = 15 ∨ k = 17 then 2 else if k = 13 ∨ k = 18 then 4 else 0
def we (k : Int) (x : Nat) : Int := if k = 11 then (if x % 256 < 128 then ((x % 256 : Nat) : Int) else ((x % 256 : Nat) : Int) + 4294967040) else if k = 12 then (if x % 65536 < 32768 then ((x % 65536 : Nat) : Int) else ((x % 65536 : Nat) : Int) + 4294901760)
  else if k = 14 then ((x % 256 : Nat) : Int) else if k = 15 then ((x % 65536 : Nat) : Int) else (x : Int)
theorem ret_b {a b c d : Bool} (h : a = b) (h2 : c = d) : Ending.returned (.tuple #[.bool a, .bool c]) = .returned (.tuple #[.bool b, .bool d]) := by rw [h, h2]
theorem lt_dec {a b : Int} : decide (a < b) = decide (a < b) := rfl
theorem goes5 (a b : Nat) (ha : a < 4294967296) (hb : b < 4294967296) (w : World) : Calls Try.prog 11 #[.int .i64 5, .int .u32 a, .int .u32 b] w fun e w' => e = .returned (.tuple #[.bool (gB 5 a b), .bool true]) ∧ w' = w := by
  go_enter Try.func11, Try.ntmps11
  go_wp2
  go_ret2
  exact ⟨ret_b (by rw [show gB 5 a b = decide (a = b) from rfl, Bool.eq_iff_iff]; simp; omega) rfl, rfl⟩
theorem goes6 (a b : Nat) (ha : a < 4294967296) (hb : b < 4294967296) (w : World) : Calls Try.prog 11 #[.int .i64 6, .int .u32 a, .int .u32 b] w fun e w' => e = .returned (.tuple #[.bool (gB 6 a b), .bool true]) ∧ w' = w := by
  go_enter Try.func11, Try.ntmps11
  go_wp2
  go_ret2
  exact ⟨ret_b (by rw [show gB 6 a b = decide (a ≠ b) from rfl, Bool.eq_iff_iff]; simp; omega) rfl, rfl⟩
theorem goes7 (a b : Nat) (ha : a < 4294967296) (hb : b < 4294967296) (w : World) : Calls Try.prog 11 #[.int .i64 7, .int .u32 a, .int .u32 b] w fun e w' => e = .returned (.tuple #[.bool (gB 7 a b), .bool true]) ∧ w' = w := by
  have x1 := sg_bd a ha
  have y1 := sg_bd b hb
  have e1 := sg_wrap a ha
  have e1' := sg_wrapK a ha
  have f1 := sg_wrap b hb
  have f1' := sg_wrapK b hb
  obtain ⟨x, hx⟩ : ∃ x, x = sg a := ⟨_, rfl⟩
  obtain ⟨y, hy⟩ : ∃ y, y = sg b := ⟨_, rfl⟩
  rw [← hx] at x1 e1 e1'
  rw [← hy] at y1 f1 f1'
  have HX := Lib.hid hx
  have HY := Lib.hid hy
  obtain ⟨x1, x2⟩ := x1
  obtain ⟨y1, y2⟩ := y1
  clear hx hy
  go_enter Try.func11, Try.ntmps11
  go_wp2
  go_ret2
  exact ⟨ret_b (by rw [show gB 7 a b = decide (sg a < sg b) from rfl, ← HX.out, ← HY.out]) rfl, rfl⟩
theorem goes8 (a b : Nat) (ha : a < 4294967296) (hb : b < 4294967296) (w : World) : Calls Try.prog 11 #[.int .i64 8, .int .u32 a, .int .u32 b] w fun e w' => e = .returned (.tuple #[.bool (gB 8 a b), .bool true]) ∧ w' = w := by
  have x1 := sg_bd a ha
  have y1 := sg_bd b hb
  have e1 := sg_wrap a ha
  have e1' := sg_wrapK a ha
  have f1 := sg_wrap b hb
  have f1' := sg_wrapK b hb
  obtain ⟨x, hx⟩ : ∃ x, x = sg a := ⟨_, rfl⟩
  obtain ⟨y, hy⟩ : ∃ y, y = sg b := ⟨_, rfl⟩
  rw [← hx] at x1 e1 e1'
  rw [← hy] at y1 f1 f1'
  have HX := Lib.hid hx
  have HY := Lib.hid hy
  obtain ⟨x1, x2⟩ := x1
  obtain ⟨y1, y2⟩ := y1
  clear hx hy
  go_enter Try.func11, Try.ntmps11
  go_wp2
  go_ret2
  exact ⟨ret_b (by rw [show gB 8 a b = decide (sg b ≤ sg a) from rfl, ← HX.out, ← HY.out]) rfl, rfl⟩
theorem goes9 (a b : Nat) (ha : a < 4294967296) (hb : b < 4294967296) (w : World) : Calls Try.prog 11 #[.int .i64 9, .int .u32 a, .int .u32 b] w fun e w' => e = .returned (.tuple #[.bool (gB 9 a b), .bool true]) ∧ w' = w := by
  go_enter Try.func11, Try.ntmps11
  go_wp2
  go_ret2
  exact ⟨ret_b (by rw [show gB 9 a b = decide (a < b) from rfl]; first | done | (simp; done) | (simp; omega)) rfl, rfl⟩
theorem goes10 (a b : Nat) (ha : a < 4294967296) (hb : b < 4294967296) (w : World) : Calls Try.prog 11 #[.int .i64 10, .int .u32 a, .int .u32 b] w fun e w' => e = .returned (.tuple #[.bool (gB 10 a b), .bool true]) ∧ w' = w := by
  go_enter Try.func11, Try.ntmps11
  go_wp2
  go_ret2
  exact ⟨ret_b (by rw [show gB 10 a b = decide (b ≤ a) from rfl]; first | done | (simp; done) | (simp; omega)) rfl, rfl⟩
theorem goes_out (k : Int) (a b : Nat) (hk : ¬ (5 ≤ k ∧ k ≤ 10)) (w : World) : Calls Try.prog 11 #[.int .i64 k, .int .u32 a, .int .u32 b] w fun e w' => e = .returned (.tuple #[.bool false, .bool false]) ∧ w' = w := by
  have d5 : (k == 5) = false := by simp; omega
  have d6 : (k == 6) = false := by simp; omega
  have d7 : (k == 7) = false := by simp; omega
  have d8 : (k == 8) = false := by simp; omega
  have d9 : (k == 9) = false := by simp; omega
  have d10 : (k == 10) = false := by simp; omega
  clear hk
  go_enter Try.func11, Try.ntmps11
  go_wp2
  go_ret2
  exact ⟨rfl, rfl⟩
theorem width11 (w : World) : Calls Try.prog 13 #[.int .i64 11] w fun e w' => e = .returned (.int .i64 1) ∧ w' = w := by
  go_enter Try.func13, Try.ntmps13
  go_wp2
  go_ret
  exact ⟨rfl, rfl⟩
theorem width12 (w : World) : Calls Try.prog 13 #[.int .i64 12] w fun e w' => e = .returned (.int .i64 2) ∧ w' = w := by
  go_enter Try.func13, Try.ntmps13
  go_wp2
  go_ret
  exact ⟨rfl, rfl⟩
theorem width13 (w : World) : Calls Try.prog 13 #[.int .i64 13] w fun e w' => e = .returned (.int .i64 4) ∧ w' = w := by
  go_enter Try.func13, Try.ntmps13
  go_wp2
  go_ret
  exact ⟨rfl, rfl⟩
theorem width14 (w : World) : Calls Try.prog 13 #[.int .i64 14] w fun e w' => e = .returned (.int .i64 1) ∧ w' = w := by
  go_enter Try.func13, Try.ntmps13
  go_wp2
  go_ret
  exact ⟨rfl, rfl⟩
theorem width15 (w : World) : Calls Try.prog 13 #[.int .i64 15] w fun e w' => e = .returned (.int .i64 2) ∧ w' = w := by
  go_enter Try.func13, Try.ntmps13
  go_wp2
  go_ret
  exact ⟨rfl, rfl⟩
theorem width16 (w : World) : Calls Try.prog 13 #[.int .i64 16] w fun e w' => e = .returned (.int .i64 1) ∧ w' = w := by
  go_enter Try.func13, Try.ntmps13
  go_wp2
  go_ret
  exact ⟨rfl, rfl⟩
theorem width17 (w : World) : Calls Try.prog 13 #[.int .i64 17] w fun e w' => e = .returned (.int .i64 2) ∧ w' = w := by
  go_enter Try.func13, Try.ntmps13
  go_wp2
  go_ret
  exact ⟨rfl, rfl⟩
theorem width18 (w : World) : Calls Try.prog 13 #[.int .i64 18] w fun e w' => e = .returned (.int .i64 4) ∧ w' = w := by
  go_enter Try.func13, Try.ntmps13
  go_wp2
  go_ret
  exact ⟨rfl, rfl⟩
theorem width_out (k : Int) (hk : ¬ (11 ≤ k ∧ k ≤ 18)) (w : World) : Calls Try.prog 13 #[.int .i64 k] w fun e w' => e = .returned (.int .i64 0) ∧ w' = w := by
  have d11 : (k == 11) = false := by simp; omega
  have d12 : (k == 12) = false := by simp; omega
  have d13 : (k == 13) = false := by simp; omega
  have d14 : (k == 14) = false := by simp; omega
  have d15 : (k == 15) = false := by simp; omega
  have d16 : (k == 16) = false := by simp; omega
  have d17 : (k == 17) = false := by simp; omega
  have d18 : (k == 18) = false := by simp; omega
  clear hk
  go_enter Try.func13, Try.ntmps13
  go_wp2
  go_ret
  exact ⟨rfl, rfl⟩
theorem i8w (x : Nat) : wrap32 (IntKind.i8.wrap (x : Int)) % 4294967296 = (if x % 256 < 128 then ((x % 256 : Nat) : Int) else ((x % 256 : Nat) : Int) + 4294967040) := by
  simp [IntKind.wrap, IntKind.bits, IntKind.signed, wrap32]; split <;> split <;> omega
theorem i16w (x : Nat) : wrap32 (IntKind.i16.wrap (x : Int)) % 4294967296 = (if x % 65536 < 32768 then ((x % 65536 : Nat) : Int) else ((x % 65536 : Nat) : Int) + 4294901760) := by
  simp [IntKind.wrap, IntKind.bits, IntKind.signed, wrap32]; split <;> split <;> omega
theorem and255 (b : Nat) (hb : b < 4294967296) : bits .and .u32 (b : Int) 255 = ((b % 256 : Nat) : Int) := by
  have := and32 b 255 hb (by decide)
  rw [show ((255 : Nat) : Int) = 255 from rfl] at this
  rw [this, show b &&& 255 = b % 256 from Nat.and_two_pow_sub_one_eq_mod b 8]
theorem and65535 (b : Nat) (hb : b < 4294967296) : bits .and .u32 (b : Int) 65535 = ((b % 65536 : Nat) : Int) := by
  have := and32 b 65535 hb (by decide)
  rw [show ((65535 : Nat) : Int) = 65535 from rfl] at this
  rw [this, show b &&& 65535 = b % 65536 from Nat.and_two_pow_sub_one_eq_mod b 16]
theorem ret_u {k : IntKind} {a b : Int} (h : a = b) : Ending.returned (.int k a) = .returned (.int k b) := by rw [h]
theorem widen11 (x : Nat) (hx : x < 4294967296) (w : World) : Calls Try.prog 15 #[.int .i64 11, .int .u32 x] w fun e w' => e = .returned (.int .u32 (we 11 x)) ∧ w' = w := by
  go_enter Try.func15, Try.ntmps15
  go_wp2
  go_ret
  exact ⟨ret_u (i8w x), rfl⟩
theorem widen12 (x : Nat) (hx : x < 4294967296) (w : World) : Calls Try.prog 15 #[.int .i64 12, .int .u32 x] w fun e w' => e = .returned (.int .u32 (we 12 x)) ∧ w' = w := by
  go_enter Try.func15, Try.ntmps15
  go_wp2
  go_ret
  exact ⟨ret_u (i16w x), rfl⟩
theorem widen14 (x : Nat) (hx : x < 4294967296) (w : World) : Calls Try.prog 15 #[.int .i64 14, .int .u32 x] w fun e w' => e = .returned (.int .u32 (we 14 x)) ∧ w' = w := by
  go_enter Try.func15, Try.ntmps15
  go_wp2
  go_ret
  exact ⟨ret_u (and255 x hx), rfl⟩
theorem widen15 (x : Nat) (hx : x < 4294967296) (w : World) : Calls Try.prog 15 #[.int .i64 15, .int .u32 x] w fun e w' => e = .returned (.int .u32 (we 15 x)) ∧ w' = w := by
  go_enter Try.func15, Try.ntmps15
  go_wp2
  go_ret
  exact ⟨ret_u (and65535 x hx), rfl⟩
theorem widen_out (k : Int) (x : Nat) (hk : ¬ (k = 11 ∨ k = 12 ∨ k = 14 ∨ k = 15)) (w : World) : Calls Try.prog 15 #[.int .i64 k, .int .u32 x] w fun e w' => e = .returned (.int .u32 (x : Int)) ∧ w' = w := by
  have d11 : (k == 11) = false := by simp; omega
  have d12 : (k == 12) = false := by simp; omega
  have d14 : (k == 14) = false := by simp; omega
  have d15 : (k == 15) = false := by simp; omega
  clear hk
  go_enter Try.func15, Try.ntmps15
  go_wp2
  go_ret
  exact ⟨rfl, rfl⟩
end Go.Proofs.L
