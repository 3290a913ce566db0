/- Proved here: lemmas and contracts (R4) for the laws of this seat, for all values of the stated types; no further condition. -/
import Derived.Test.YtjiiojbenbldlaaR3
open Go Go.RowKit Go.Lib
namespace Go.Proofs.L
attribute [local go_sem] mem_size mem_all
attribute [local go_sem ↓] zM
set_option maxRecDepth 100000 in
set_option maxHeartbeats 1600000 in
theorem new_ok (w : World) : Calls Try.prog 16 #[] w fun e w' => e = .returned (.pointer (some ⟨w.heap.size, 0, none⟩)) ∧ w' = w.alloc (.cells (mem fun _ => 0) 73) := by
  go_enter Try.func16, Try.ntmps16
  go_wp2
  go_ret
  exact ⟨rfl, rfl⟩
theorem new_row (w : World) : (w.alloc (.cells (mem fun _ => 0) 73)).row? w.heap.size = some (mem fun _ => 0) := row_alloc_at _ _ _ _ rfl
end Go.Proofs.L
