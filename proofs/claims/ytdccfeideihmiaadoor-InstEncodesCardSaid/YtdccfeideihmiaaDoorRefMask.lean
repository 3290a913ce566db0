/- Proved here: lemmas and contracts (RefMask) for the laws of this seat, for all values of the stated types; no further condition. -/
import Derived.Test.YtdccfeideihmiaaDoorRefImm
open Go Go.RowKit Go.Lib
namespace Go.Proofs.L
theorem rmask_U (w : World) : Calls Tryd.prog 32 #[.string ⟨#[85]⟩] w fun e w' => e = .returned (.int .i64 127) ∧ w' = w := by
  go_enter Tryd.func32, Tryd.ntmps32
  go_wp2
  go_ret
  exact ⟨rfl, rfl⟩
theorem rmask_J (w : World) : Calls Tryd.prog 32 #[.string ⟨#[74]⟩] w fun e w' => e = .returned (.int .i64 127) ∧ w' = w := by
  go_enter Tryd.func32, Tryd.ntmps32
  go_wp2
  go_ret
  exact ⟨rfl, rfl⟩
theorem rmask_I (w : World) : Calls Tryd.prog 32 #[.string ⟨#[73]⟩] w fun e w' => e = .returned (.int .i64 28799) ∧ w' = w := by
  go_enter Tryd.func32, Tryd.ntmps32
  go_wp2
  go_ret
  exact ⟨rfl, rfl⟩
theorem rmask_S (w : World) : Calls Tryd.prog 32 #[.string ⟨#[83]⟩] w fun e w' => e = .returned (.int .i64 28799) ∧ w' = w := by
  go_enter Tryd.func32, Tryd.ntmps32
  go_wp2
  go_ret
  exact ⟨rfl, rfl⟩
theorem rmask_B (w : World) : Calls Tryd.prog 32 #[.string ⟨#[66]⟩] w fun e w' => e = .returned (.int .i64 28799) ∧ w' = w := by
  go_enter Tryd.func32, Tryd.ntmps32
  go_wp2
  go_ret
  exact ⟨rfl, rfl⟩
theorem rmask_C (w : World) : Calls Tryd.prog 32 #[.string ⟨#[67]⟩] w fun e w' => e = .returned (.int .i64 28799) ∧ w' = w := by
  go_enter Tryd.func32, Tryd.ntmps32
  go_wp2
  go_ret
  exact ⟨rfl, rfl⟩
theorem rmask_Z (w : World) : Calls Tryd.prog 32 #[.string ⟨#[90]⟩] w fun e w' => e = .returned (.int .i64 28799) ∧ w' = w := by
  go_enter Tryd.func32, Tryd.ntmps32
  go_wp2
  go_ret
  exact ⟨rfl, rfl⟩
theorem rmask_R (w : World) : Calls Tryd.prog 32 #[.string ⟨#[82]⟩] w fun e w' => e = .returned (.int .i64 4261441663) ∧ w' = w := by
  go_enter Tryd.func32, Tryd.ntmps32
  go_wp2
  go_ret
  exact ⟨rfl, rfl⟩
theorem rmask_T (w : World) : Calls Tryd.prog 32 #[.string ⟨#[84]⟩] w fun e w' => e = .returned (.int .i64 4261441663) ∧ w' = w := by
  go_enter Tryd.func32, Tryd.ntmps32
  go_wp2
  go_ret
  exact ⟨rfl, rfl⟩
theorem rmask_F (w : World) : Calls Tryd.prog 32 #[.string ⟨#[70]⟩] w fun e w' => e = .returned (.int .i64 28799) ∧ w' = w := by
  go_enter Tryd.func32, Tryd.ntmps32
  go_wp2
  go_ret
  exact ⟨rfl, rfl⟩
theorem rmask_N (w : World) : Calls Tryd.prog 32 #[.string ⟨#[78]⟩] w fun e w' => e = .returned (.int .i64 4294967295) ∧ w' = w := by
  go_enter Tryd.func32, Tryd.ntmps32
  go_wp2
  go_ret
  exact ⟨rfl, rfl⟩
end Go.Proofs.L
