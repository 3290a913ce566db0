/- Proved here: lemmas and contracts (Fit) for the laws of this seat, for all values of the stated types; no further condition. -/
import Derived.Test.YtenmnaibmmpfmaaRefGoes
open Go Go.RowKit Go.Lib
namespace Go.Proofs.L
theorem fitA (w : World) : Calls Try.prog 9 #[.int .i64 42, .int .u32 4294967289, .int .u32 2] w fun e w' => e = .returned (.tuple #[.int .u32 4294967293, .bool true]) ∧ w' = w := by
  have h := reckon42 4294967289 2 (by decide) (by decide) w
  rw [show vI 42 4294967289 2 = 4294967293 from rfl] at h
  exact h
theorem fitB (w : World) : Calls Try.prog 11 #[.int .i64 7, .int .u32 4294967295, .int .u32 0] w fun e w' => e = .returned (.tuple #[.bool true, .bool true]) ∧ w' = w := by
  have h := goes7 4294967295 0 (by decide) (by decide) w
  rw [show gB 7 4294967295 0 = true from rfl] at h
  exact h
theorem fitC (w : World) : Calls Try.prog 15 #[.int .i64 11, .int .u32 128] w fun e w' => e = .returned (.int .u32 4294967168) ∧ w' = w := by
  have h := widen11 128 (by decide) w
  rw [show we 11 128 = 4294967168 from rfl] at h
  exact h
theorem fit_ok (w : World) : Calls Try.prog 8 #[] w fun e w' => e = .returned (.bool true) ∧ w' = w := by
  go_enter Try.func8, Try.ntmps8
  go_wp2_with fail
  refine (fitA _).mono ?_
  rintro e w1 ⟨rfl, rfl⟩
  go_wp2_with fail
  refine (fitB _).mono ?_
  rintro e w1 ⟨rfl, rfl⟩
  go_wp2_with fail
  refine (width15 _).mono ?_
  rintro e w1 ⟨rfl, rfl⟩
  go_wp2_with fail
  refine (fitC _).mono ?_
  rintro e w1 ⟨rfl, rfl⟩
  go_wp2
  go_ret
  exact ⟨rfl, rfl⟩
theorem ite_bd {c : Prop} [Decidable c] {x y : Int} (h1 : c → 0 ≤ x ∧ x < 4294967296) (h2 : ¬ c → 0 ≤ y ∧ y < 4294967296) : 0 ≤ (if c then x else y) ∧ (if c then x else y) < 4294967296 := by
  split
  · exact h1 ‹_›
  · exact h2 ‹_›
theorem vI_bd (k a b : Nat) (ha : a < 4294967296) (hb : b < 4294967296) : 0 ≤ vI k a b ∧ vI k a b < 4294967296 := by
  have x1 := Nat.xor_lt_two_pow (n := 32) ha hb
  have x2 := Nat.or_lt_two_pow (n := 32) ha hb
  have x3 := Nat.lt_of_le_of_lt (Nat.and_le_left (n := a) (m := b)) ha
  have x4 := Int.ediv_nonneg (a := (a : Int)) (b := b) (by omega) (by omega)
  have x5 := Int.ediv_le_self (a := (a : Int)) b (by omega)
  have x6 : 0 ≤ (a : Int) / 2 ^ (b % 32) := Int.ediv_nonneg (by omega) (Int.le_of_lt (Int.pow_pos (by decide)))
  have x7 : (a : Int) / 2 ^ (b % 32) ≤ a := Int.ediv_le_self _ (by omega)
  have x8 : b ≠ 0 → 0 ≤ (a : Int) % b := fun h => Int.emod_nonneg _ (by omega)
  have x9 : b ≠ 0 → (a : Int) % b < b := fun h => Int.emod_lt_of_pos _ (by omega)
  unfold vI
  generalize (a : Int) / 2 ^ (b % 32) = q at *
  have e1 : ∀ z : Int, 0 ≤ z % 4294967296 ∧ z % 4294967296 < 4294967296 := fun z => by omega
  repeat' (refine ite_bd (fun _ => ?_) (fun _ => ?_))
  all_goals first | exact e1 _ | omega | skip
theorem reckons_walk (op : Int) (a b : Nat) (ha : a < 4294967296) (hb : b < 4294967296) (w : World) : Calls Try.prog 3 #[.int .i64 op, .int .u32 a, .int .u32 b] w fun e w' => e = .returned (.bool true) ∧ Below w.heap.size w w' := by
  by_cases hk : op < 19 ∨ 46 ≤ op
  · have H1 := Lib.hid (fun w => reckon_out op a b hk w)
    have H2 := Lib.hid (fun w => ref_out op a b ha hb hk w)
    clear hk
    go_enter Try.func3, Try.ntmps3
    go_wp2_with fail
    refine (fit_ok w).mono ?_
    rintro e w1 ⟨rfl, rfl⟩
    go_wp2_with fail
    refine (H1.out _).mono ?_
    rintro e w1 ⟨rfl, rfl⟩
    go_wp2_with fail
    refine (H2.out _).mono ?_
    rintro e w1 ⟨rfl, hB⟩
    go_wp2
    go_ret
    exact ⟨rfl, hB⟩
  · obtain ⟨k, rfl⟩ := Int.eq_ofNat_of_zero_le (show 0 ≤ op by omega)
    have H1 := Lib.hid (fun w => reckon_in k a b ha hb (by omega) (by omega) w)
    have H2 := Lib.hid (fun w => ref_in k a b ha hb (by omega) (by omega) w)
    obtain ⟨b1, b2⟩ := vI_bd k a b ha hb
    obtain ⟨v, hv⟩ : ∃ v, v = vI k a b := ⟨_, rfl⟩
    rw [← hv] at H1 H2 b1 b2
    clear hk hv
    go_enter Try.func3, Try.ntmps3
    go_wp2_with fail
    refine (fit_ok w).mono ?_
    rintro e w1 ⟨rfl, rfl⟩
    go_wp2_with fail
    refine (H1.out _).mono ?_
    rintro e w1 ⟨rfl, rfl⟩
    go_wp2_with fail
    refine (H2.out _).mono ?_
    rintro e w1 ⟨rfl, hB⟩
    go_wp2
    go_ret
    exact ⟨rfl, hB⟩
end Go.Proofs.L
