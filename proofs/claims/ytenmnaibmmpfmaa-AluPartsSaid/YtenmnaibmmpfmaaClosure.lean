/- Proved here: lemmas and contracts (Closure) for the laws of this seat, for all values of the stated types; no further condition. -/
import Derived.Test.YtenmnaibmmpfmaaFit
open Go Go.RowKit Go.Lib
namespace Go.Proofs.L
theorem r17 (k a b : Nat) (ha : a < 4294967296) (hb : b < 4294967296) (h1 : 19 ≤ k) (h2 : k < 46) (w : World) : Calls Try.prog 17 #[.int .i64 k, .int .u32 a, .int .u32 b] w fun e w' => e = .returned (.int .u32 (vI k a b)) ∧ w' = w := by
  have H1 := Lib.hid (reckon_in k a b ha hb h1 h2 w)
  generalize vI k a b = v at *
  clear h1 h2
  go_enter Try.func17, Try.ntmps17
  go_wp2_with fail
  refine H1.out.mono ?_
  rintro e w1 ⟨rfl, rfl⟩
  go_wp2
  go_ret
  exact ⟨rfl, rfl⟩
theorem r18 (k a b : Nat) (ha : a < 4294967296) (hb : b < 4294967296) (h1 : 19 ≤ k) (h2 : k < 46) (w : World) : Calls Try.prog 18 #[.int .i64 k, .int .u32 a, .int .u32 b] w fun e w' => e = .returned (.int .u32 (vI k a b)) ∧ w' = w := by
  have H1 := Lib.hid (reckon_in k a b ha hb h1 h2 w)
  generalize vI k a b = v at *
  clear h1 h2
  go_enter Try.func18, Try.ntmps18
  go_wp2_with fail
  refine H1.out.mono ?_
  rintro e w1 ⟨rfl, rfl⟩
  go_wp2
  go_ret
  exact ⟨rfl, rfl⟩
end Go.Proofs.L
