/- Proved here: lemmas and contracts (Apart) for the laws of this seat, for all values of the stated types; no further condition. -/
import Derived.Test.YtlceohlbpgcmpaaDoorPlanLaw
open Go Go.RowKit Go.Lib
namespace Go.Proofs.L
attribute [local irreducible] wpT
theorem wrapS (a b t : Nat) (ht : t = a + b) (h : t < 1000000000000) : wrap64 ((a : Int) + (b : Int)) = (t : Int) := by rw [IntWalk.wrap64_in _ ⟨by omega, by omega⟩]; omega
set_option maxRecDepth 100000 in
theorem within_any (a n b m : Nat) (ha : a + n < 1000000000000) (hb : b + m < 1000000000000) (w : World) :
    Calls Tryd.prog 12 #[.int .i64 (a : Int), .int .i64 (n : Int), .int .i64 (b : Int), .int .i64 (m : Int)] w fun e w' => e = .returned (.bool (decide (b ≤ a) && decide (a + n ≤ b + m))) ∧ w' = w := by
  obtain ⟨t, ht⟩ : ∃ t, t = a + n := ⟨_, rfl⟩
  obtain ⟨u, hu⟩ : ∃ t, t = b + m := ⟨_, rfl⟩
  have e1 := wrapS a n t ht (by omega)
  have e2 := wrapS b m u hu (by omega)
  rw [← ht, ← hu]
  clear ht hu ha hb
  by_cases h1 : b ≤ a
  · have g1 : decide ((b : Int) ≤ (a : Int)) = true := by rw [decide_eq_true_eq]; omega
    rw [decide_eq_true h1, Bool.true_and]
    by_cases h2 : t ≤ u
    · have g2 : decide ((t : Int) ≤ (u : Int)) = true := by rw [decide_eq_true_eq]; omega
      rw [decide_eq_true h2]
      go_enter Tryd.func12, Tryd.ntmps12
      go_wp2
      go_ret
      exact ⟨rfl, rfl⟩
    · have g2 : decide ((t : Int) ≤ (u : Int)) = false := by rw [decide_eq_false_iff_not]; omega
      rw [decide_eq_false h2]
      go_enter Tryd.func12, Tryd.ntmps12
      go_wp2
      go_ret
      exact ⟨rfl, rfl⟩
  · have g1 : decide ((b : Int) ≤ (a : Int)) = false := by rw [decide_eq_false_iff_not]; omega
    rw [decide_eq_false h1, Bool.false_and]
    go_enter Tryd.func12, Tryd.ntmps12
    go_wp2
    go_ret
    exact ⟨rfl, rfl⟩
set_option maxRecDepth 100000 in
theorem apart_two (a n b m : Nat) (ha : a + n < 1000000000000) (hb : b + m < 1000000000000) (hn : n ≠ 0) (hm : m ≠ 0) (w : World) :
    Calls Tryd.prog 20 #[.int .i64 (a : Int), .int .i64 (n : Int), .int .i64 (b : Int), .int .i64 (m : Int)] w fun e w' => e = .returned (.bool (decide (a + n ≤ b ∨ b + m ≤ a))) ∧ w' = w := by
  obtain ⟨t, ht⟩ : ∃ t, t = a + n := ⟨_, rfl⟩
  obtain ⟨u, hu⟩ : ∃ t, t = b + m := ⟨_, rfl⟩
  have e1 := wrapS a n t ht (by omega)
  have e2 := wrapS b m u hu (by omega)
  have HT : Hid (a < t) := Lib.hid (by omega)
  have HU : Hid (b < u) := Lib.hid (by omega)
  rw [← ht, ← hu]
  clear ht hu ha hb
  by_cases h1 : a < b
  · have g1 : decide (a < b) = true := by rw [decide_eq_true_eq]; omega
    by_cases h2 : u < t
    · have g2 : decide (u < t) = true := by rw [decide_eq_true_eq]; omega
      have g3 : decide (u ≤ b) = false := by have := HU.out; rw [decide_eq_false_iff_not]; omega
      have hr : decide (t ≤ b ∨ u ≤ a) = false := by have := HU.out; rw [decide_eq_false_iff_not]; omega
      rw [hr]
      clear h1 h2
      go_enter Tryd.func20, Tryd.ntmps20
      go_wp2
      go_ret
      exact ⟨rfl, rfl⟩
    · have g2 : decide (u < t) = false := by rw [decide_eq_false_iff_not]; omega
      by_cases h3 : t ≤ b
      · have g3 : decide (t ≤ b) = true := by rw [decide_eq_true_eq]; omega
        have hr : decide (t ≤ b ∨ u ≤ a) = true := by rw [decide_eq_true_eq]; omega
        rw [hr]
        clear h1 h2
        go_enter Tryd.func20, Tryd.ntmps20
        go_wp2
        go_ret
        exact ⟨rfl, rfl⟩
      · have g3 : decide (t ≤ b) = false := by rw [decide_eq_false_iff_not]; omega
        have hr : decide (t ≤ b ∨ u ≤ a) = false := by have := HU.out; rw [decide_eq_false_iff_not]; omega
        rw [hr]
        clear h1 h2 h3
        go_enter Tryd.func20, Tryd.ntmps20
        go_wp2
        go_ret
        exact ⟨rfl, rfl⟩
  · have g1 : decide (a < b) = false := by rw [decide_eq_false_iff_not]; omega
    by_cases h2 : u < t
    · have g2 : decide (u < t) = true := by rw [decide_eq_true_eq]; omega
      by_cases h3 : u ≤ a
      · have g3 : decide (u ≤ a) = true := by rw [decide_eq_true_eq]; omega
        have hr : decide (t ≤ b ∨ u ≤ a) = true := by rw [decide_eq_true_eq]; omega
        rw [hr]
        clear h1 h2
        go_enter Tryd.func20, Tryd.ntmps20
        go_wp2
        go_ret
        exact ⟨rfl, rfl⟩
      · have g3 : decide (u ≤ a) = false := by rw [decide_eq_false_iff_not]; omega
        have hr : decide (t ≤ b ∨ u ≤ a) = false := by have := HU.out; have := HT.out; rw [decide_eq_false_iff_not]; omega
        rw [hr]
        clear h1 h2 h3
        go_enter Tryd.func20, Tryd.ntmps20
        go_wp2
        go_ret
        exact ⟨rfl, rfl⟩
    · have g2 : decide (u < t) = false := by rw [decide_eq_false_iff_not]; omega
      have g3 : decide (t ≤ a) = false := by have := HT.out; rw [decide_eq_false_iff_not]; omega
      have hr : decide (t ≤ b ∨ u ≤ a) = false := by have := HU.out; have := HT.out; rw [decide_eq_false_iff_not]; omega
      rw [hr]
      clear h1 h2
      go_enter Tryd.func20, Tryd.ntmps20
      go_wp2
      go_ret
      exact ⟨rfl, rfl⟩
end Go.Proofs.L
