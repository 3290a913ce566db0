/- Proved here: lemmas and contracts (RunsAll) for the laws of this seat, for all values of the stated types; no further condition. -/
import Derived.Test.YtefabfijlehfdaaRunsWalk
import Derived.Test.YtefabfijlehfdaaOpenCalls
open Go Go.RowKit Go.Lib
namespace Go.Proofs.L
set_option maxRecDepth 100000 in
set_option maxHeartbeats 1600000 in
theorem runs_long (n : Int) (p : Option Addr) (len cap : Nat) (hlen : 200 < len) (w : World) : Calls Try.prog 4 #[.int .i64 n, .slice p len cap] w fun e w' => e = .returned (.bool true) ∧ Below w.heap.size w w' := by
  have dl : decide ((len : Int) > 200) = true := by simp; omega
  have dl2 : decide (200 < (len : Int)) = true := by simp; omega
  go_enter Try.func4, Try.ntmps4
  go_wp2_with fail
  refine (fit_ok w).mono ?_
  rintro e w0 ⟨rfl, hB0⟩
  go_wp2
  go_ret
  exact ⟨rfl, hB0⟩
set_option maxRecDepth 100000 in
set_option maxHeartbeats 1600000 in
theorem runs_bad (n : Int) (hn : n < 1 ∨ 4 < n) (p : Option Addr) (len cap : Nat) (hlen : len ≤ 200) (w : World) : Calls Try.prog 4 #[.int .i64 n, .slice p len cap] w fun e w' => e = .returned (.bool true) ∧ Below w.heap.size w w' := by
  have dl : decide ((len : Int) > 200) = false := by simp; omega
  have dl2 : decide (200 < (len : Int)) = false := by simp; omega
  have HN := Lib.hid (new_bad n hn)
  by_cases h1 : n < 1
  · have d1 : decide (n < 1) = true := by simpa using h1
    clear hn h1
    go_enter Try.func4, Try.ntmps4
    go_wp2_with fail
    refine (fit_ok w).mono ?_
    rintro e w0 ⟨rfl, hB0⟩
    go_wp2_with fail
    refine (HN.out _).mono ?_
    rintro e w1 ⟨rfl, rfl⟩
    go_wp2
    go_ret
    exact ⟨rfl, hB0⟩
  · have d1 : decide (n < 1) = false := by simpa using h1
    have d2 : decide (n > 4) = true := by simp; omega
    have d3 : decide (4 < n) = true := by simp; omega
    clear hn h1
    go_enter Try.func4, Try.ntmps4
    go_wp2_with fail
    refine (fit_ok w).mono ?_
    rintro e w0 ⟨rfl, hB0⟩
    go_wp2_with fail
    refine (HN.out _).mono ?_
    rintro e w1 ⟨rfl, rfl⟩
    go_wp2
    go_ret
    exact ⟨rfl, hB0⟩
theorem runs_all (n : Int) (sb so len cap : Nat) (p : Option Addr) (w : World) (hp : 0 < len → p = some ⟨sb, so, none⟩)
    (hcell : ∀ k, k < len → ∃ (kd wh : Int) (t : ByteArray), t.size ≤ 140737488355328 ∧ w.cell? ⟨sb, so + k * 3, none⟩ = some (.int .i64 kd) ∧ w.cell? ⟨sb, so + k * 3 + 1, none⟩ = some (.int .i64 wh) ∧ w.cell? ⟨sb, so + k * 3 + 2, none⟩ = some (.string t)) :
    Calls Try.prog 4 #[.int .i64 n, .slice p len cap] w fun e w' => e = .returned (.bool true) ∧ Below w.heap.size w w' := by
  by_cases hl : 200 < len
  · exact runs_long n p len cap hl w
  · by_cases hn : n < 1 ∨ 4 < n
    · exact runs_bad n hn p len cap (by omega) w
    · obtain ⟨m, rfl⟩ := Int.eq_ofNat_of_zero_le (show 0 ≤ n by omega)
      exact runs_walk m (by omega) (by omega) sb so len cap p (by omega) w hp hcell
end Go.Proofs.L
