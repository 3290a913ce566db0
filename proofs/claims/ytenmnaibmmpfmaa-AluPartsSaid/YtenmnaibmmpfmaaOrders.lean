/- Proved here: lemmas and contracts (Orders) for the laws of this seat, for all values of the stated types; no further condition. -/
import Derived.Test.YtenmnaibmmpfmaaClosure
open Go Go.RowKit Go.Lib
namespace Go.Proofs.L
def ol (k : Nat) : Nat := [28, 38, 39, 41, 33, 36, 37].getD k 28
theorem ol_in (k : Nat) (h : k < 7) : 19 ≤ ol k ∧ ol k < 46 := by
  have : k = 0 ∨ k = 1 ∨ k = 2 ∨ k = 3 ∨ k = 4 ∨ k = 5 ∨ k = 6 := by omega
  rcases this with rfl | rfl | rfl | rfl | rfl | rfl | rfl <;> decide
theorem ol_comm (k : Nat) (h : k < 7) (a b : Nat) : vI (ol k) a b = vI (ol k) b a := by
  have : k = 0 ∨ k = 1 ∨ k = 2 ∨ k = 3 ∨ k = 4 ∨ k = 5 ∨ k = 6 := by omega
  rcases this with rfl | rfl | rfl | rfl | rfl | rfl | rfl
  · show ((a : Int) + b) % 4294967296 = ((b : Int) + a) % 4294967296
    rw [Int.add_comm]
  · show ((a : Int) * b) % 4294967296 = ((b : Int) * a) % 4294967296
    rw [Int.mul_comm]
  · show (sg a * sg b / 4294967296) % 4294967296 = (sg b * sg a / 4294967296) % 4294967296
    rw [Int.mul_comm]
  · show ((a : Int) * b / 4294967296) % 4294967296 = ((b : Int) * a / 4294967296) % 4294967296
    rw [Int.mul_comm]
  · show ((a ^^^ b : Nat) : Int) = ((b ^^^ a : Nat) : Int)
    rw [Nat.xor_comm]
  · show ((a ||| b : Nat) : Int) = ((b ||| a : Nat) : Int)
    rw [Nat.or_comm]
  · show ((a &&& b : Nat) : Int) = ((b &&& a : Nat) : Int)
    rw [Nat.and_comm]
def olC : Array Value := #[.int .i64 28, .int .i64 38, .int .i64 39, .int .i64 41, .int .i64 33, .int .i64 36, .int .i64 37]
theorem olC_get (k : Nat) (h : k < 7) : olC[k]? = some (.int .i64 (ol k : Int)) := by
  have : k = 0 ∨ k = 1 ∨ k = 2 ∨ k = 3 ∨ k = 4 ∨ k = 5 ∨ k = 6 := by omega
  rcases this with rfl | rfl | rfl | rfl | rfl | rfl | rfl <;> rfl
set_option maxHeartbeats 1600000 in
theorem orders_walk (a b : Nat) (ha : a < 4294967296) (hb : b < 4294967296) (w : World) : Calls Try.prog 7 #[.int .u32 a, .int .u32 b] w fun e w' => e = .returned (.bool true) ∧ Below w.heap.size w w' := by
  obtain ⟨W, hW⟩ : ∃ W, W = w.alloc (.cells olC 3) := ⟨_, rfl⟩
  have hr : W.row? w.heap.size = some olC := by rw [hW, row_alloc_at _ _ _ _ rfl]
  have hB : Below w.heap.size w W := by rw [hW]; exact (Below.refl _ _).alloc (Nat.le_refl _) _
  have HW := Lib.hid hW
  clear hW
  go_enter Try.func7, Try.ntmps7
  go_wp2_with fail
  refine (fit_ok w).mono ?_
  rintro e w1 ⟨rfl, rfl⟩
  go_wp2
  change World at W
  rw [show (w1.alloc (.cells #[.int .i64 28, .int .i64 38, .int .i64 39, .int .i64 41, .int .i64 33, .int .i64 36, .int .i64 37] 3)) = W from HW.out.symm]
  go_loopw [27] (fun i wr => ∃ k : Nat, k ≤ 7 ∧ i = .int .i64 k ∧ wr = W) (fun i _ => 7 - (intOf i).toNat)
  case atStart => exact ⟨0, by omega, rfl, rfl⟩
  case round =>
    obtain ⟨k, hk, rfl, rfl⟩ := hrel
    by_cases hlt : k < 7
    · have c1 : wr.cell? ⟨w1.heap.size, k, none⟩ = some (.int .i64 (ol k : Int)) := by rw [row_cell hr, olC_get k hlt]
      obtain ⟨o1, o2⟩ := ol_in k hlt
      have hc := ol_comm k hlt a b
      have H1 := Lib.hid (fun w => reckon_in (ol k) a b ha hb o1 o2 w)
      have H2 := Lib.hid (fun w => reckon_in (ol k) b a hb ha o1 o2 w)
      rw [← hc] at H2
      obtain ⟨v, hv⟩ : ∃ v, v = vI (ol k) a b := ⟨_, rfl⟩
      rw [← hv] at H1 H2
      obtain ⟨o, ho⟩ : ∃ o, o = ol k := ⟨_, rfl⟩
      rw [← ho] at H1 H2 c1
      clear hc hv ho o1 o2 HW
      go_wp2_with fail
      refine (H1.out _).mono ?_
      rintro e w2 ⟨rfl, rfl⟩
      go_wp2_with fail
      refine (H2.out _).mono ?_
      rintro e w3 ⟨rfl, rfl⟩
      go_wp2
      go_roundw
      case rel => exact ⟨k + 1, hlt, by go_num, by first | rfl | trivial⟩
      case measure => simp [intOf]; omega
    · obtain rfl : k = 7 := by omega
      clear HW
      have h1 := Lib.hid (fun w => reckon29 a a ha ha w)
      rw [show vI 29 a a = 0 from by show ((a : Int) - a) % 4294967296 = 0; simp] at h1
      have h2 := Lib.hid (fun w => reckon33 a a ha ha w)
      rw [show vI 33 a a = 0 from by show ((a ^^^ a : Nat) : Int) = 0; simp] at h2
      have h3 := Lib.hid (fun w => reckon31 a b ha hb w)
      rw [show vI 31 a b = (if sg a < sg b then 1 else 0) from rfl] at h3
      have h4 := Lib.hid (fun w => goes8 a b ha hb w)
      rw [show gB 8 a b = decide (sg b ≤ sg a) from rfl] at h4
      have h5 := Lib.hid (fun w => reckon32 a b ha hb w)
      rw [show vI 32 a b = (if a < b then 1 else 0) from rfl] at h5
      have h6 := Lib.hid (fun w => goes9 a b ha hb w)
      rw [show gB 9 a b = decide (a < b) from rfl] at h6
      obtain ⟨l, g, hl, hg, hlg⟩ : ∃ (l : Int) (g : Bool), l = (if sg a < sg b then 1 else 0) ∧ g = decide (sg b ≤ sg a) ∧ ((l = 0 ∧ g = true) ∨ (l = 1 ∧ g = false)) := by
        refine ⟨_, _, rfl, rfl, ?_⟩
        by_cases h : sg a < sg b
        · right; exact ⟨if_pos h, decide_eq_false (by omega)⟩
        · left; exact ⟨if_neg h, decide_eq_true (by omega)⟩
      obtain ⟨m, h, hm, hh, hmh⟩ : ∃ (m : Int) (h : Bool), m = (if a < b then 1 else 0) ∧ h = decide (a < b) ∧ ((m = 0 ∧ h = false) ∨ (m = 1 ∧ h = true)) := by
        refine ⟨_, _, rfl, rfl, ?_⟩
        by_cases h : a < b
        · right; exact ⟨if_pos h, decide_eq_true h⟩
        · left; exact ⟨if_neg h, decide_eq_false h⟩
      rw [← hl] at h3
      rw [← hg] at h4
      rw [← hm] at h5
      rw [← hh] at h6
      clear hl hg hm hh
      rcases hlg with ⟨rfl, rfl⟩ | ⟨rfl, rfl⟩ <;> rcases hmh with ⟨rfl, rfl⟩ | ⟨rfl, rfl⟩
      all_goals
        go_wp2_with fail
        refine (h1.out _).mono ?_
        rintro e w2 ⟨rfl, rfl⟩
        go_wp2_with fail
        refine (h2.out _).mono ?_
        rintro e w2 ⟨rfl, rfl⟩
        go_wp2_with fail
        refine (h3.out _).mono ?_
        rintro e w2 ⟨rfl, rfl⟩
        go_wp2_with fail
        refine (h4.out _).mono ?_
        rintro e w2 ⟨rfl, rfl⟩
        go_wp2_with fail
        refine (h5.out _).mono ?_
        rintro e w2 ⟨rfl, rfl⟩
        go_wp2_with fail
        refine (h6.out _).mono ?_
        rintro e w2 ⟨rfl, rfl⟩
        go_wp2
        go_ret
        exact ⟨rfl, hB⟩
end Go.Proofs.L
