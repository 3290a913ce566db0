/- Proved here: lemmas and contracts (R8) for the laws of this seat, for all values of the stated types; no further condition. -/
import Derived.Test.YtjiiojbenbldlaaR7
open Go Go.RowKit Go.Lib
namespace Go.Proofs.L
/-- a number of n bits with its sign -/
def sgn (n x : Nat) : Int := if x / 2 ^ (n - 1) = 1 then (x : Int) - 2 ^ n else x
theorem sign_12 (x : Nat) (hx : x < 4096) (w : World) : Calls Try.prog 28 #[.int .i64 (x : Int), .int .i64 12] w fun e w' => e = .returned (.int .i64 (sgn 12 x)) ∧ w' = w := by
  have hg : sgn 12 x = if x / 2048 = 1 then (x : Int) - 4096 else x := rfl
  obtain ⟨K, hK⟩ : ∃ K, K = sgn 12 x := ⟨_, rfl⟩
  rw [← hK] at hg ⊢
  have HG := Lib.hid hg
  clear hg hK
  by_cases h : x / 2048 = 1
  · have e : (x : Int) / 2048 = 1 := by omega
    have e2 : wrap64 ((x : Int) - 4096) = (x : Int) - 4096 := IntWalk.wrap64_in _ ⟨by omega, by omega⟩
    have HH := Lib.hid h
    clear h
    go_enter Try.func28, Try.ntmps28
    go_wp2
    go_ret
    exact ⟨by rw [HG.out, if_pos HH.out]; rfl, rfl⟩
  · have e : ((x : Int) / 2048 == 1) = false := by rw [beq_eq_false_iff_ne]; omega
    have e2 : ((x : Int) / 2048 = 1) = False := by simp; omega
    have HH := Lib.hid h
    clear h
    go_enter Try.func28, Try.ntmps28
    go_wp2
    go_ret
    exact ⟨by rw [HG.out, if_neg HH.out]; rfl, rfl⟩
theorem sign_13 (x : Nat) (hx : x < 8192) (w : World) : Calls Try.prog 28 #[.int .i64 (x : Int), .int .i64 13] w fun e w' => e = .returned (.int .i64 (sgn 13 x)) ∧ w' = w := by
  have hg : sgn 13 x = if x / 4096 = 1 then (x : Int) - 8192 else x := rfl
  obtain ⟨K, hK⟩ : ∃ K, K = sgn 13 x := ⟨_, rfl⟩
  rw [← hK] at hg ⊢
  have HG := Lib.hid hg
  clear hg hK
  by_cases h : x / 4096 = 1
  · have e : (x : Int) / 4096 = 1 := by omega
    have e2 : wrap64 ((x : Int) - 8192) = (x : Int) - 8192 := IntWalk.wrap64_in _ ⟨by omega, by omega⟩
    have HH := Lib.hid h
    clear h
    go_enter Try.func28, Try.ntmps28
    go_wp2
    go_ret
    exact ⟨by rw [HG.out, if_pos HH.out]; rfl, rfl⟩
  · have e : ((x : Int) / 4096 == 1) = false := by rw [beq_eq_false_iff_ne]; omega
    have e2 : ((x : Int) / 4096 = 1) = False := by simp; omega
    have HH := Lib.hid h
    clear h
    go_enter Try.func28, Try.ntmps28
    go_wp2
    go_ret
    exact ⟨by rw [HG.out, if_neg HH.out]; rfl, rfl⟩
theorem sign_21 (x : Nat) (hx : x < 2097152) (w : World) : Calls Try.prog 28 #[.int .i64 (x : Int), .int .i64 21] w fun e w' => e = .returned (.int .i64 (sgn 21 x)) ∧ w' = w := by
  have hg : sgn 21 x = if x / 1048576 = 1 then (x : Int) - 2097152 else x := rfl
  obtain ⟨K, hK⟩ : ∃ K, K = sgn 21 x := ⟨_, rfl⟩
  rw [← hK] at hg ⊢
  have HG := Lib.hid hg
  clear hg hK
  by_cases h : x / 1048576 = 1
  · have e : (x : Int) / 1048576 = 1 := by omega
    have e2 : wrap64 ((x : Int) - 2097152) = (x : Int) - 2097152 := IntWalk.wrap64_in _ ⟨by omega, by omega⟩
    have HH := Lib.hid h
    clear h
    go_enter Try.func28, Try.ntmps28
    go_wp2
    go_ret
    exact ⟨by rw [HG.out, if_pos HH.out]; rfl, rfl⟩
  · have e : ((x : Int) / 1048576 == 1) = false := by rw [beq_eq_false_iff_ne]; omega
    have e2 : ((x : Int) / 1048576 = 1) = False := by simp; omega
    have HH := Lib.hid h
    clear h
    go_enter Try.func28, Try.ntmps28
    go_wp2
    go_ret
    exact ⟨by rw [HG.out, if_neg HH.out]; rfl, rfl⟩
theorem sign_32 (x : Nat) (hx : x < 4294967296) (w : World) : Calls Try.prog 28 #[.int .i64 (x : Int), .int .i64 32] w fun e w' => e = .returned (.int .i64 (sgn 32 x)) ∧ w' = w := by
  have hg : sgn 32 x = if x / 2147483648 = 1 then (x : Int) - 4294967296 else x := rfl
  obtain ⟨K, hK⟩ : ∃ K, K = sgn 32 x := ⟨_, rfl⟩
  rw [← hK] at hg ⊢
  have HG := Lib.hid hg
  clear hg hK
  by_cases h : x / 2147483648 = 1
  · have e : (x : Int) / 2147483648 = 1 := by omega
    have e2 : wrap64 ((x : Int) - 4294967296) = (x : Int) - 4294967296 := IntWalk.wrap64_in _ ⟨by omega, by omega⟩
    have HH := Lib.hid h
    clear h
    go_enter Try.func28, Try.ntmps28
    go_wp2
    go_ret
    exact ⟨by rw [HG.out, if_pos HH.out]; rfl, rfl⟩
  · have e : ((x : Int) / 2147483648 == 1) = false := by rw [beq_eq_false_iff_ne]; omega
    have e2 : ((x : Int) / 2147483648 = 1) = False := by simp; omega
    have HH := Lib.hid h
    clear h
    go_enter Try.func28, Try.ntmps28
    go_wp2
    go_ret
    exact ⟨by rw [HG.out, if_neg HH.out]; rfl, rfl⟩
end Go.Proofs.L
