/- Proved here: lemmas and contracts (P4) for the laws of this seat, for all values of the stated types; no further condition. -/
import Derived.Test.YtikbkhhgbkpijaaP3
open Go Go.RowKit Go.Lib
namespace Go.Proofs.L
attribute [local go_sem] mem_size mem_all
attribute [local go_sem ↓] z72
set_option maxRecDepth 100000 in
set_option maxHeartbeats 1600000 in
theorem new_ok (w : World) : Calls Try.prog 8 #[] w fun e w' => e = .returned (.pointer (some ⟨w.heap.size, 0, none⟩)) ∧ w' = w.alloc (.cells (mem fun _ => 0) 72) := by
  go_enter Try.func8, Try.ntmps8
  go_wp2
  go_ret
  exact ⟨rfl, rfl⟩
theorem new_row (w : World) : (w.alloc (.cells (mem fun _ => 0) 72)).row? w.heap.size = some (mem fun _ => 0) := row_alloc_at _ _ _ _ rfl
/-- what the example has in memory -/
def f4 : Nat → Nat := stN (fun _ => 0) 0 16909060 4
theorem f4_lt (i : Nat) : f4 i < 256 := stN_lt _ (by simp) _ _ _ _
set_option maxRecDepth 100000 in
set_option maxHeartbeats 1600000 in
theorem fit_ok (w : World) : Calls Try.prog 7 #[] w fun e w' => e = .returned (.bool true) ∧ Below w.heap.size w w' := by
  go_enter Try.func7, Try.ntmps7
  go_wp2_with fail
  refine (new_ok w).mono ?_
  rintro e w1 ⟨rfl, hw1⟩
  have r1 : w1.row? w.heap.size = some (mem fun _ => 0) := by rw [hw1]; exact new_row w
  have C1 : Chg [w.heap.size] w w1 := by rw [hw1]; exact (Chg.refl _ _).alloc _
  clear hw1
  go_wp2_with fail
  refine (store_ok _ 2147483648 0 4 _ 16909060 rfl (by simp) (by omega) (by decide) w1 r1).mono ?_
  rintro e w2 ⟨rfl, r2, C2⟩
  replace C2 := C1.trans C2
  clear C1 r1
  go_wp2_with fail
  refine (load_ok _ f4_lt 2147483649 1 2 _ rfl (by simp) (by omega) w2 r2).mono ?_
  rintro e w3 ⟨rfl, rfl⟩
  rw [show leN f4 1 2 = 515 from by decide]
  go_wp2_with fail
  refine (has_any 2147483647 1 (by decide) (by decide) _ w3).mono ?_
  rintro e w4 ⟨rfl, rfl⟩
  rw [show inRam 2147483647 1 = false from rfl]
  go_wp2_with fail
  refine (has_any 2147483648 65536 (by decide) (by decide) _ w4).mono ?_
  rintro e w5 ⟨rfl, rfl⟩
  rw [show inRam 2147483648 65536 = true from rfl]
  go_wp2
  go_ret
  exact ⟨rfl, C2.below (by simp) (Nat.le_refl _)⟩
end Go.Proofs.L
