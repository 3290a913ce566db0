/- Proved here: lemmas and contracts (R10) for the laws of this seat, for all values of the stated types; no further condition. -/
import Derived.Test.YtjiiojbenbldlaaR6
import Derived.Test.YtjiiojbenbldlaaR9
open Go Go.RowKit Go.Lib
namespace Go.Proofs.L
attribute [local irreducible] wpT
/-! reloc: the small functions -/
def upN (v : Nat) : Nat := (v + 2048) % 4294967296 / 4096 * 4096
theorem upN_lt (v : Nat) : upN v < 4294967296 := by unfold upN; omega
theorem upper_any (v : Nat) (w : World) : Calls Try.prog 18 #[.int .u32 (v : Int)] w fun e w' => e = .returned (.int .u32 ((upN v : Nat) : Int)) ∧ w' = w := by
  obtain ⟨y, hy⟩ : ∃ y, y = (v + 2048) % 4294967296 := ⟨_, rfl⟩
  have e1 : IntKind.u32.wrap ((v : Int) + 2048) = (y : Int) := by rw [u32w]; omega
  have e2 : bits .andNot .u32 (y : Int) 4095 = ((y / 4096 * 4096 : Nat) : Int) := andNot32 y 0 (by omega)
  have hu : upN v = y / 4096 * 4096 := by rw [hy]; rfl
  obtain ⟨z, hz⟩ : ∃ z, z = y / 4096 * 4096 := ⟨_, rfl⟩
  rw [hu]
  rw [← hz] at e2 ⊢
  clear hy hz hu
  go_enter Try.func18, Try.ntmps18
  go_wp2
  go_ret
  exact ⟨rfl, rfl⟩
def sizeN (t : Int) : Nat := if t = 18 ∨ t = 19 then 8 else if t = 1 ∨ t = 3 ∨ t = 16 ∨ t = 17 ∨ t = 23 ∨ t = 24 ∨ t = 25 ∨ t = 26 ∨ t = 27 ∨ t = 28 then 4 else 0
theorem size_any (t : Int) (w : World) : Calls Try.prog 35 #[.int .i64 t] w fun e w' => e = .returned (.int .u32 ((sizeN t : Nat) : Int)) ∧ w' = w := by
  by_cases h1 : t = 18 ∨ t = 19 ∨ t = 1 ∨ t = 3 ∨ t = 16 ∨ t = 17 ∨ t = 23 ∨ t = 24 ∨ t = 25 ∨ t = 26 ∨ t = 27 ∨ t = 28
  · rcases h1 with rfl | rfl | rfl | rfl | rfl | rfl | rfl | rfl | rfl | rfl | rfl | rfl <;>
    · go_enter Try.func35, Try.ntmps35
      go_wp2
      go_ret
      exact ⟨rfl, rfl⟩
  · have hs : sizeN t = 0 := by unfold sizeN; rw [if_neg (by omega), if_neg (by omega)]
    rw [hs]
    have n1 : ¬ t = 18 := by omega
    have n2 : ¬ t = 19 := by omega
    have n3 : ¬ t = 1 := by omega
    have n4 : ¬ t = 3 := by omega
    have n5 : ¬ t = 16 := by omega
    have n6 : ¬ t = 17 := by omega
    have n7 : ¬ t = 23 := by omega
    have n8 : ¬ t = 24 := by omega
    have n9 : ¬ t = 25 := by omega
    have n10 : ¬ t = 26 := by omega
    have n11 : ¬ t = 27 := by omega
    have n12 : ¬ t = 28 := by omega
    clear h1 hs
    go_enter Try.func35, Try.ntmps35
    go_wp2
    go_ret
    exact ⟨rfl, rfl⟩
/-- too far for n bits, or odd: v with its sign -/
def s32 (v : Nat) : Int := if v < 2147483648 then v else v - 4294967296
def farN (v : Nat) (n : Nat) : Bool := decide (v % 2 ≠ 0) || (decide (s32 v < -2 ^ (n - 1)) || decide (s32 v ≥ 2 ^ (n - 1)))
theorem far_any (v n : Nat) (hv : v < 4294967296) (hn : n = 13 ∨ n = 21) (w : World) : Calls Try.prog 38 #[.int .u32 (v : Int), .int .i64 (n : Int)] w fun e w' => e = .returned (.bool (farN v n)) ∧ w' = w := by
  obtain ⟨x, hx⟩ : ∃ x, x = s32 v := ⟨_, rfl⟩
  have e1 : IntKind.i32.wrap (v : Int) = x := by
    rw [hx]; unfold s32
    simp [IntKind.wrap, IntKind.bits, IntKind.signed]
    split <;> split <;> omega
  have e2 : wrap32 (v : Int) = x := by
    rw [hx]; unfold s32 wrap32
    split <;> omega
  obtain ⟨m, hm⟩ : ∃ m, m = v % 2 := ⟨_, rfl⟩
  have e3 : (v : Int) % 2 = (m : Int) := by omega
  have e4 : (v : Int).tmod 2 = (m : Int) := by rw [Int.tmod_eq_emod_of_nonneg (by omega)]; exact e3
  have hF : farN v n = (decide (m ≠ 0) || (decide (x < -2 ^ (n - 1)) || decide (x ≥ 2 ^ (n - 1)))) := by unfold farN; rw [← hm, ← hx]
  have HF := Lib.hid hF
  clear hx hF
  rcases hn with rfl | rfl
  · go_enter Try.func38, Try.ntmps38
    by_cases h0 : m = 0
    · have hmI : (m : Int) = 0 := by omega
      have HM := Lib.hid h0
      clear hm h0
      go_wp2
      all_goals (go_ret; refine ⟨congrArg (fun b => Ending.returned (.bool b)) (a₁ := _) ?_, rfl⟩; rw [HF.out]; have h9 := HM.out; clear HM HF hmI; simp_all)
    · have hmI : ¬ (m : Int) = 0 := by omega
      have HM := Lib.hid h0
      clear hm
      go_wp2
      all_goals (go_ret; refine ⟨congrArg (fun b => Ending.returned (.bool b)) (a₁ := _) ?_, rfl⟩; rw [HF.out]; have h9 := HM.out; clear HM HF hmI; simp_all)
  · go_enter Try.func38, Try.ntmps38
    by_cases h0 : m = 0
    · have hmI : (m : Int) = 0 := by omega
      have HM := Lib.hid h0
      clear hm h0
      go_wp2
      all_goals (go_ret; refine ⟨congrArg (fun b => Ending.returned (.bool b)) (a₁ := _) ?_, rfl⟩; rw [HF.out]; have h9 := HM.out; clear HM HF hmI; simp_all)
    · have hmI : ¬ (m : Int) = 0 := by omega
      have HM := Lib.hid h0
      clear hm
      go_wp2
      all_goals (go_ret; refine ⟨congrArg (fun b => Ending.returned (.bool b)) (a₁ := _) ?_, rfl⟩; rw [HF.out]; have h9 := HM.out; clear HM HF hmI; simp_all)
end Go.Proofs.L
