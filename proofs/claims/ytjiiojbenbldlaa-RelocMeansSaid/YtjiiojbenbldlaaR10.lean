/- Proved here: lemmas and contracts (R10) for the laws of this seat, for all values of the stated types; no further condition. -/
import Derived.Test.YtjiiojbenbldlaaR8
import Derived.Test.YtjiiojbenbldlaaR6
open Go Go.RowKit Go.Lib
namespace Go.Proofs.L
theorem rimm_I (x : Nat) (hx : x < 4294967296) (w : World) : Calls Try.prog 14 #[.string ⟨#[73]⟩, .int .i64 (x : Int)] w fun e w' => e = .returned (.int .i64 (sgn 12 ((x / 1048576 % 4096)))) ∧ Chg [] w w' := by
  have hb0 := bits_31_20 x hx
  have hs := sign_12 ((x / 1048576 % 4096)) (by omega)
  obtain ⟨y0, hy0⟩ : ∃ y, y = x / 1048576 % 4096 := ⟨_, rfl⟩
  have hl0 : (y0 : Int) < 4096 := by omega
  rw [← hy0] at hs ⊢
  simp only [← hy0] at hb0
  have HB0 := Lib.hid hb0
  have HS := Lib.hid hs
  clear hb0 hy0 hs hx
  have HC0 : Hid (Chg [] w w) := Lib.hid (Chg.refl _ _)
  go_enter Try.func14, Try.ntmps14
  go_wp2_with fail
  refine (HB0.out _).mono ?_
  rintro e w1 ⟨rfl, hc⟩
  have HC1 : Hid (Chg [] w w1) := Lib.hid (HC0.out.trans hc)
  clear hc
  go_wp2_with fail
  refine (HS.out _).mono ?_
  rintro e w' ⟨rfl, rfl⟩
  go_wp2_with fail
  go_ret
  exact ⟨rfl, HC1.out⟩
theorem rimm_S (x : Nat) (hx : x < 4294967296) (w : World) : Calls Try.prog 14 #[.string ⟨#[83]⟩, .int .i64 (x : Int)] w fun e w' => e = .returned (.int .i64 (sgn 12 ((x / 33554432 % 128) * 32 + (x / 128 % 32)))) ∧ Chg [] w w' := by
  have hb0 := bits_31_25 x hx
  have hb1 := bits_11_7 x hx
  have hs := sign_12 ((x / 33554432 % 128) * 32 + (x / 128 % 32)) (by omega)
  obtain ⟨y0, hy0⟩ : ∃ y, y = x / 33554432 % 128 := ⟨_, rfl⟩
  have hl0 : (y0 : Int) < 128 := by omega
  obtain ⟨y1, hy1⟩ : ∃ y, y = x / 128 % 32 := ⟨_, rfl⟩
  have hl1 : (y1 : Int) < 32 := by omega
  rw [← hy0, ← hy1] at hs ⊢
  simp only [← hy0] at hb0
  have HB0 := Lib.hid hb0
  simp only [← hy1] at hb1
  have HB1 := Lib.hid hb1
  rw [show ((y0 * 32 + y1 : Nat) : Int) = (y0 : Int) * 32 + (y1 : Int) by omega] at hs
  have HS := Lib.hid hs
  clear hb0 hy0 hb1 hy1 hs hx
  have HC0 : Hid (Chg [] w w) := Lib.hid (Chg.refl _ _)
  go_enter Try.func14, Try.ntmps14
  go_wp2_with fail
  refine (HB0.out _).mono ?_
  rintro e w1 ⟨rfl, hc⟩
  have HC1 : Hid (Chg [] w w1) := Lib.hid (HC0.out.trans hc)
  clear hc
  go_wp2_with fail
  refine (HB1.out _).mono ?_
  rintro e w2 ⟨rfl, hc⟩
  have HC2 : Hid (Chg [] w w2) := Lib.hid (HC1.out.trans hc)
  clear hc
  go_wp2_with fail
  refine (HS.out _).mono ?_
  rintro e w' ⟨rfl, rfl⟩
  go_wp2_with fail
  go_ret
  exact ⟨rfl, HC2.out⟩
theorem rimm_B (x : Nat) (hx : x < 4294967296) (w : World) : Calls Try.prog 14 #[.string ⟨#[66]⟩, .int .i64 (x : Int)] w fun e w' => e = .returned (.int .i64 (sgn 13 ((x / 2147483648 % 2) * 4096 + (x / 128 % 2) * 2048 + (x / 33554432 % 64) * 32 + (x / 256 % 16) * 2))) ∧ Chg [] w w' := by
  have hb0 := bits_31_31 x hx
  have hb1 := bits_7_7 x hx
  have hb2 := bits_30_25 x hx
  have hb3 := bits_11_8 x hx
  have hs := sign_13 ((x / 2147483648 % 2) * 4096 + (x / 128 % 2) * 2048 + (x / 33554432 % 64) * 32 + (x / 256 % 16) * 2) (by omega)
  obtain ⟨y0, hy0⟩ : ∃ y, y = x / 2147483648 % 2 := ⟨_, rfl⟩
  have hl0 : (y0 : Int) < 2 := by omega
  obtain ⟨y1, hy1⟩ : ∃ y, y = x / 128 % 2 := ⟨_, rfl⟩
  have hl1 : (y1 : Int) < 2 := by omega
  obtain ⟨y2, hy2⟩ : ∃ y, y = x / 33554432 % 64 := ⟨_, rfl⟩
  have hl2 : (y2 : Int) < 64 := by omega
  obtain ⟨y3, hy3⟩ : ∃ y, y = x / 256 % 16 := ⟨_, rfl⟩
  have hl3 : (y3 : Int) < 16 := by omega
  rw [← hy0, ← hy1, ← hy2, ← hy3] at hs ⊢
  simp only [← hy0] at hb0
  have HB0 := Lib.hid hb0
  simp only [← hy1] at hb1
  have HB1 := Lib.hid hb1
  simp only [← hy2] at hb2
  have HB2 := Lib.hid hb2
  simp only [← hy3] at hb3
  have HB3 := Lib.hid hb3
  rw [show ((y0 * 4096 + y1 * 2048 + y2 * 32 + y3 * 2 : Nat) : Int) = (y0 : Int) * 4096 + (y1 : Int) * 2048 + (y2 : Int) * 32 + (y3 : Int) * 2 by omega] at hs
  have HS := Lib.hid hs
  clear hb0 hy0 hb1 hy1 hb2 hy2 hb3 hy3 hs hx
  have HC0 : Hid (Chg [] w w) := Lib.hid (Chg.refl _ _)
  go_enter Try.func14, Try.ntmps14
  go_wp2_with fail
  refine (HB0.out _).mono ?_
  rintro e w1 ⟨rfl, hc⟩
  have HC1 : Hid (Chg [] w w1) := Lib.hid (HC0.out.trans hc)
  clear hc
  go_wp2_with fail
  refine (HB1.out _).mono ?_
  rintro e w2 ⟨rfl, hc⟩
  have HC2 : Hid (Chg [] w w2) := Lib.hid (HC1.out.trans hc)
  clear hc
  go_wp2_with fail
  refine (HB2.out _).mono ?_
  rintro e w3 ⟨rfl, hc⟩
  have HC3 : Hid (Chg [] w w3) := Lib.hid (HC2.out.trans hc)
  clear hc
  go_wp2_with fail
  refine (HB3.out _).mono ?_
  rintro e w4 ⟨rfl, hc⟩
  have HC4 : Hid (Chg [] w w4) := Lib.hid (HC3.out.trans hc)
  clear hc
  go_wp2_with fail
  refine (HS.out _).mono ?_
  rintro e w' ⟨rfl, rfl⟩
  go_wp2_with fail
  go_ret
  exact ⟨rfl, HC4.out⟩
theorem rimm_J (x : Nat) (hx : x < 4294967296) (w : World) : Calls Try.prog 14 #[.string ⟨#[74]⟩, .int .i64 (x : Int)] w fun e w' => e = .returned (.int .i64 (sgn 21 ((x / 2147483648 % 2) * 1048576 + (x / 4096 % 256) * 4096 + (x / 1048576 % 2) * 2048 + (x / 2097152 % 1024) * 2))) ∧ Chg [] w w' := by
  have hb0 := bits_31_31 x hx
  have hb1 := bits_19_12 x hx
  have hb2 := bits_20_20 x hx
  have hb3 := bits_30_21 x hx
  have hs := sign_21 ((x / 2147483648 % 2) * 1048576 + (x / 4096 % 256) * 4096 + (x / 1048576 % 2) * 2048 + (x / 2097152 % 1024) * 2) (by omega)
  obtain ⟨y0, hy0⟩ : ∃ y, y = x / 2147483648 % 2 := ⟨_, rfl⟩
  have hl0 : (y0 : Int) < 2 := by omega
  obtain ⟨y1, hy1⟩ : ∃ y, y = x / 4096 % 256 := ⟨_, rfl⟩
  have hl1 : (y1 : Int) < 256 := by omega
  obtain ⟨y2, hy2⟩ : ∃ y, y = x / 1048576 % 2 := ⟨_, rfl⟩
  have hl2 : (y2 : Int) < 2 := by omega
  obtain ⟨y3, hy3⟩ : ∃ y, y = x / 2097152 % 1024 := ⟨_, rfl⟩
  have hl3 : (y3 : Int) < 1024 := by omega
  rw [← hy0, ← hy1, ← hy2, ← hy3] at hs ⊢
  simp only [← hy0] at hb0
  have HB0 := Lib.hid hb0
  simp only [← hy1] at hb1
  have HB1 := Lib.hid hb1
  simp only [← hy2] at hb2
  have HB2 := Lib.hid hb2
  simp only [← hy3] at hb3
  have HB3 := Lib.hid hb3
  rw [show ((y0 * 1048576 + y1 * 4096 + y2 * 2048 + y3 * 2 : Nat) : Int) = (y0 : Int) * 1048576 + (y1 : Int) * 4096 + (y2 : Int) * 2048 + (y3 : Int) * 2 by omega] at hs
  have HS := Lib.hid hs
  clear hb0 hy0 hb1 hy1 hb2 hy2 hb3 hy3 hs hx
  have HC0 : Hid (Chg [] w w) := Lib.hid (Chg.refl _ _)
  go_enter Try.func14, Try.ntmps14
  go_wp2_with fail
  refine (HB0.out _).mono ?_
  rintro e w1 ⟨rfl, hc⟩
  have HC1 : Hid (Chg [] w w1) := Lib.hid (HC0.out.trans hc)
  clear hc
  go_wp2_with fail
  refine (HB1.out _).mono ?_
  rintro e w2 ⟨rfl, hc⟩
  have HC2 : Hid (Chg [] w w2) := Lib.hid (HC1.out.trans hc)
  clear hc
  go_wp2_with fail
  refine (HB2.out _).mono ?_
  rintro e w3 ⟨rfl, hc⟩
  have HC3 : Hid (Chg [] w w3) := Lib.hid (HC2.out.trans hc)
  clear hc
  go_wp2_with fail
  refine (HB3.out _).mono ?_
  rintro e w4 ⟨rfl, hc⟩
  have HC4 : Hid (Chg [] w w4) := Lib.hid (HC3.out.trans hc)
  clear hc
  go_wp2_with fail
  refine (HS.out _).mono ?_
  rintro e w' ⟨rfl, rfl⟩
  go_wp2_with fail
  go_ret
  exact ⟨rfl, HC4.out⟩
theorem rimm_T (x : Nat) (hx : x < 4294967296) (w : World) : Calls Try.prog 14 #[.string ⟨#[84]⟩, .int .i64 (x : Int)] w fun e w' => e = .returned (.int .i64 (((((x / 1048576 % 32)) : Nat) : Int))) ∧ Chg [] w w' := by
  have hb0 := bits_24_20 x hx
  obtain ⟨y0, hy0⟩ : ∃ y, y = x / 1048576 % 32 := ⟨_, rfl⟩
  have hl0 : (y0 : Int) < 32 := by omega
  rw [← hy0]
  simp only [← hy0] at hb0
  have HB0 := Lib.hid hb0
  clear hb0 hy0 hx
  have HC0 : Hid (Chg [] w w) := Lib.hid (Chg.refl _ _)
  go_enter Try.func14, Try.ntmps14
  go_wp2_with fail
  refine (HB0.out _).mono ?_
  rintro e w1 ⟨rfl, hc⟩
  have HC1 : Hid (Chg [] w w1) := Lib.hid (HC0.out.trans hc)
  clear hc
  go_wp2_with fail
  go_ret
  exact ⟨rfl, HC1.out⟩
theorem rimm_C (x : Nat) (hx : x < 4294967296) (w : World) : Calls Try.prog 14 #[.string ⟨#[67]⟩, .int .i64 (x : Int)] w fun e w' => e = .returned (.int .i64 (((((x / 1048576 % 4096)) : Nat) : Int))) ∧ Chg [] w w' := by
  have hb0 := bits_31_20 x hx
  obtain ⟨y0, hy0⟩ : ∃ y, y = x / 1048576 % 4096 := ⟨_, rfl⟩
  have hl0 : (y0 : Int) < 4096 := by omega
  rw [← hy0]
  simp only [← hy0] at hb0
  have HB0 := Lib.hid hb0
  clear hb0 hy0 hx
  have HC0 : Hid (Chg [] w w) := Lib.hid (Chg.refl _ _)
  go_enter Try.func14, Try.ntmps14
  go_wp2_with fail
  refine (HB0.out _).mono ?_
  rintro e w1 ⟨rfl, hc⟩
  have HC1 : Hid (Chg [] w w1) := Lib.hid (HC0.out.trans hc)
  clear hc
  go_wp2_with fail
  go_ret
  exact ⟨rfl, HC1.out⟩
theorem rimm_Z (x : Nat) (hx : x < 4294967296) (w : World) : Calls Try.prog 14 #[.string ⟨#[90]⟩, .int .i64 (x : Int)] w fun e w' => e = .returned (.int .i64 (((((x / 1048576 % 4096)) : Nat) : Int))) ∧ Chg [] w w' := by
  have hb0 := bits_31_20 x hx
  obtain ⟨y0, hy0⟩ : ∃ y, y = x / 1048576 % 4096 := ⟨_, rfl⟩
  have hl0 : (y0 : Int) < 4096 := by omega
  rw [← hy0]
  simp only [← hy0] at hb0
  have HB0 := Lib.hid hb0
  clear hb0 hy0 hx
  have HC0 : Hid (Chg [] w w) := Lib.hid (Chg.refl _ _)
  go_enter Try.func14, Try.ntmps14
  go_wp2_with fail
  refine (HB0.out _).mono ?_
  rintro e w1 ⟨rfl, hc⟩
  have HC1 : Hid (Chg [] w w1) := Lib.hid (HC0.out.trans hc)
  clear hc
  go_wp2_with fail
  go_ret
  exact ⟨rfl, HC1.out⟩
theorem rimm_U (x : Nat) (hx : x < 4294967296) (w : World) : Calls Try.prog 14 #[.string ⟨#[85]⟩, .int .i64 (x : Int)] w fun e w' => e = .returned (.int .i64 (sgn 32 (x / 4096 * 4096))) ∧ w' = w := by
  have hs := sign_32 (x / 4096 * 4096) (by omega)
  obtain ⟨y, hy⟩ : ∃ y, y = x / 4096 * 4096 := ⟨_, rfl⟩
  have e1 : (x : Int) - (x : Int) % 4096 = (y : Int) := by omega
  have e2 : wrap64 ((x : Int) - (x : Int) % 4096) = (y : Int) := by rw [e1]; exact IntWalk.wrap64_in _ ⟨by omega, by omega⟩
  rw [← hy] at hs ⊢
  have HS := Lib.hid hs
  clear hs hy
  go_enter Try.func14, Try.ntmps14
  go_wp2_with fail
  refine (HS.out _).mono ?_
  rintro e w' ⟨rfl, rfl⟩
  go_wp2
  go_ret
  exact ⟨rfl, rfl⟩
theorem rimm_R (x : Int) (w : World) : Calls Try.prog 14 #[.string ⟨#[82]⟩, .int .i64 x] w fun e w' => e = .returned (.int .i64 0) ∧ w' = w := by
  go_enter Try.func14, Try.ntmps14
  go_wp2
  go_ret
  exact ⟨rfl, rfl⟩
theorem rimm_N (x : Int) (w : World) : Calls Try.prog 14 #[.string ⟨#[78]⟩, .int .i64 x] w fun e w' => e = .returned (.int .i64 0) ∧ w' = w := by
  go_enter Try.func14, Try.ntmps14
  go_wp2
  go_ret
  exact ⟨rfl, rfl⟩
theorem rimm_F (x : Int) (w : World) : Calls Try.prog 14 #[.string ⟨#[70]⟩, .int .i64 x] w fun e w' => e = .returned (.int .i64 0) ∧ w' = w := by
  go_enter Try.func14, Try.ntmps14
  go_wp2
  go_ret
  exact ⟨rfl, rfl⟩
end Go.Proofs.L

open Go Go.RowKit Go.Lib
namespace Go.Proofs.L
attribute [local irreducible] wpT
/-! reloc: the small functions -/
def upN (v : Nat) : Nat := (v + 2048) % 4294967296 / 4096 * 4096
theorem upN_lt (v : Nat) : upN v < 4294967296 := by unfold upN; omega
theorem upper_any (v : Nat) (w : World) : Calls Try.prog 18 #[.int .u32 (v : Int)] w fun e w' => e = .returned (.int .u32 ((upN v : Nat) : Int)) ∧ w' = w := by
  obtain ⟨y, hy⟩ : ∃ y, y = (v + 2048) % 4294967296 := ⟨_, rfl⟩
  have e1 : IntKind.u32.wrap ((v : Int) + 2048) = (y : Int) := by rw [u32w]; omega
  have e2 : bits .andNot .u32 (y : Int) 4095 = ((y / 4096 * 4096 : Nat) : Int) := andNot32 y 0 (by omega)
  have hu : upN v = y / 4096 * 4096 := by rw [hy]; rfl
  obtain ⟨z, hz⟩ : ∃ z, z = y / 4096 * 4096 := ⟨_, rfl⟩
  rw [hu]
  rw [← hz] at e2 ⊢
  clear hy hz hu
  go_enter Try.func18, Try.ntmps18
  go_wp2
  go_ret
  exact ⟨rfl, rfl⟩
def sizeN (t : Int) : Nat := if t = 18 ∨ t = 19 then 8 else if t = 1 ∨ t = 3 ∨ t = 16 ∨ t = 17 ∨ t = 23 ∨ t = 24 ∨ t = 25 ∨ t = 26 ∨ t = 27 ∨ t = 28 then 4 else 0
theorem size_any (t : Int) (w : World) : Calls Try.prog 35 #[.int .i64 t] w fun e w' => e = .returned (.int .u32 ((sizeN t : Nat) : Int)) ∧ w' = w := by
  by_cases h1 : t = 18 ∨ t = 19 ∨ t = 1 ∨ t = 3 ∨ t = 16 ∨ t = 17 ∨ t = 23 ∨ t = 24 ∨ t = 25 ∨ t = 26 ∨ t = 27 ∨ t = 28
  · rcases h1 with rfl | rfl | rfl | rfl | rfl | rfl | rfl | rfl | rfl | rfl | rfl | rfl <;>
    · go_enter Try.func35, Try.ntmps35
      go_wp2
      go_ret
      exact ⟨rfl, rfl⟩
  · have hs : sizeN t = 0 := by unfold sizeN; rw [if_neg (by omega), if_neg (by omega)]
    rw [hs]
    have n1 : ¬ t = 18 := by omega
    have n2 : ¬ t = 19 := by omega
    have n3 : ¬ t = 1 := by omega
    have n4 : ¬ t = 3 := by omega
    have n5 : ¬ t = 16 := by omega
    have n6 : ¬ t = 17 := by omega
    have n7 : ¬ t = 23 := by omega
    have n8 : ¬ t = 24 := by omega
    have n9 : ¬ t = 25 := by omega
    have n10 : ¬ t = 26 := by omega
    have n11 : ¬ t = 27 := by omega
    have n12 : ¬ t = 28 := by omega
    clear h1 hs
    go_enter Try.func35, Try.ntmps35
    go_wp2
    go_ret
    exact ⟨rfl, rfl⟩
/-- too far for n bits, or odd: v with its sign -/
def s32 (v : Nat) : Int := if v < 2147483648 then v else v - 4294967296
def farN (v : Nat) (n : Nat) : Bool := decide (v % 2 ≠ 0) || (decide (s32 v < -2 ^ (n - 1)) || decide (s32 v ≥ 2 ^ (n - 1)))
theorem far_any (v n : Nat) (hv : v < 4294967296) (hn : n = 13 ∨ n = 21) (w : World) : Calls Try.prog 38 #[.int .u32 (v : Int), .int .i64 (n : Int)] w fun e w' => e = .returned (.bool (farN v n)) ∧ w' = w := by
  obtain ⟨x, hx⟩ : ∃ x, x = s32 v := ⟨_, rfl⟩
  have e1 : IntKind.i32.wrap (v : Int) = x := by
    rw [hx]; unfold s32
    simp [IntKind.wrap, IntKind.bits, IntKind.signed]
    split <;> split <;> omega
  have e2 : wrap32 (v : Int) = x := by
    rw [hx]; unfold s32 wrap32
    split <;> omega
  obtain ⟨m, hm⟩ : ∃ m, m = v % 2 := ⟨_, rfl⟩
  have e3 : (v : Int) % 2 = (m : Int) := by omega
  have e4 : (v : Int).tmod 2 = (m : Int) := by rw [Int.tmod_eq_emod_of_nonneg (by omega)]; exact e3
  have hF : farN v n = (decide (m ≠ 0) || (decide (x < -2 ^ (n - 1)) || decide (x ≥ 2 ^ (n - 1)))) := by unfold farN; rw [← hm, ← hx]
  have HF := Lib.hid hF
  clear hx hF
  rcases hn with rfl | rfl
  · go_enter Try.func38, Try.ntmps38
    by_cases h0 : m = 0
    · have hmI : (m : Int) = 0 := by omega
      have HM := Lib.hid h0
      clear hm h0
      go_wp2
      all_goals (go_ret; refine ⟨congrArg (fun b => Ending.returned (.bool b)) (a₁ := _) ?_, rfl⟩; rw [HF.out]; have h9 := HM.out; clear HM HF hmI; simp_all)
    · have hmI : ¬ (m : Int) = 0 := by omega
      have HM := Lib.hid h0
      clear hm
      go_wp2
      all_goals (go_ret; refine ⟨congrArg (fun b => Ending.returned (.bool b)) (a₁ := _) ?_, rfl⟩; rw [HF.out]; have h9 := HM.out; clear HM HF hmI; simp_all)
  · go_enter Try.func38, Try.ntmps38
    by_cases h0 : m = 0
    · have hmI : (m : Int) = 0 := by omega
      have HM := Lib.hid h0
      clear hm h0
      go_wp2
      all_goals (go_ret; refine ⟨congrArg (fun b => Ending.returned (.bool b)) (a₁ := _) ?_, rfl⟩; rw [HF.out]; have h9 := HM.out; clear HM HF hmI; simp_all)
    · have hmI : ¬ (m : Int) = 0 := by omega
      have HM := Lib.hid h0
      clear hm
      go_wp2
      all_goals (go_ret; refine ⟨congrArg (fun b => Ending.returned (.bool b)) (a₁ := _) ?_, rfl⟩; rw [HF.out]; have h9 := HM.out; clear HM HF hmI; simp_all)
end Go.Proofs.L
