/- Proved here: lemmas and contracts (Pw2) for the laws of this seat, for all values of the stated types; no further condition. -/
import Derived.Test.YtikbkhhgbkpijaaPw1
open Go Go.RowKit Go.Lib
namespace Go.Proofs.L
attribute [local irreducible] wpT
attribute [local go_sem] mem_size mem_all
attribute [local go_sem ↓] z72
/-! Copy: a new memory with the same bytes -/
theorem a72 : aggT Try.prog 72 65536 := aggT_of (by kernel_rfl)
set_option maxRecDepth 100000 in
set_option maxHeartbeats 1600000 in
theorem copy_ok {f : Nat → Nat} {b : Nat} {w : World} (hw : w.row? b = some (mem f)) :
    Calls Try.prog 18 #[.pointer (some ⟨b, 0, none⟩)] w fun e w' => e = .returned (.pointer (some ⟨w.heap.size, 0, none⟩)) ∧ w' = w.alloc (.cells (mem f) 72) := by
  have HW := Lib.hid hw
  have HL : Hid (∀ (j : Nat) (u : Value), (mem f).toList[j]? = some u → w.cell? ⟨b, 0 + j, none⟩ = some u) := Lib.hid fun j u hu => by
    rw [row_cell hw, Nat.zero_add]; simpa using hu
  clear hw
  go_enter Try.func18, Try.ntmps18
  go_wp2_with (first | (refine wpList_load_part a72 (mem f).toList rfl _ rfl rfl (by rw [Array.length_toList]; exact mem_size f) HL.out ?_) | (refine wpList_store_new a72 _ _ rfl rfl rfl rfl rfl (mem_size _) (mem_size f) (mem_all f) ?_))
  go_ret
  exact ⟨rfl, rfl⟩
end Go.Proofs.L
