/- Proved here: lemmas and contracts (SumNil) for the laws of this seat, for all values of the stated types; no further condition. -/
import Derived.Test.YtaoocfemgkjcnaaDoorNew
open Go Go.RowKit Go.Lib
namespace Go.Proofs.L
attribute [local irreducible] wpT
def z32 : Array Value := #[.int .u8 0, .int .u8 0, .int .u8 0, .int .u8 0, .int .u8 0, .int .u8 0, .int .u8 0, .int .u8 0, .int .u8 0, .int .u8 0, .int .u8 0, .int .u8 0, .int .u8 0, .int .u8 0, .int .u8 0, .int .u8 0, .int .u8 0, .int .u8 0, .int .u8 0, .int .u8 0, .int .u8 0, .int .u8 0, .int .u8 0, .int .u8 0, .int .u8 0, .int .u8 0, .int .u8 0, .int .u8 0, .int .u8 0, .int .u8 0, .int .u8 0, .int .u8 0]
theorem z32_nat : z32 = (natL .u8 (List.replicate 32 0)).toArray := rfl
set_option maxRecDepth 100000 in
theorem sumNil (w : World) : Calls Tryd.prog 11 #[.pointer none] w fun e w' => e = .returned (.agg z32) ∧ Chg [] w w' := by
  obtain ⟨V, hV⟩ : ∃ V, V = (w.alloc (.cells z32 24)).alloc (.cells z32 24) := ⟨_, rfl⟩
  obtain ⟨B, hB⟩ : ∃ B, B = w.heap.size := ⟨_, rfl⟩
  have r1 : V.row? B = some z32 := by rw [hV, hB, row_alloc_past _ _ _ (by simp)]; exact row_alloc_at _ _ _ _ rfl
  have r2 : V.row? (B + 1) = some z32 := by rw [hV, hB]; exact row_alloc_at _ _ _ _ (by simp)
  have hc : Chg [] w V := by rw [hV]; exact ((Chg.refl _ _).alloc _).alloc _
  have HR1 := Lib.hid r1
  have HR2 := Lib.hid r2
  have HC := Lib.hid hc
  have HB := Lib.hid hB
  have HV : Hid (V = (w.alloc (.cells #[.int .u8 0, .int .u8 0, .int .u8 0, .int .u8 0, .int .u8 0, .int .u8 0, .int .u8 0, .int .u8 0, .int .u8 0, .int .u8 0, .int .u8 0, .int .u8 0, .int .u8 0, .int .u8 0, .int .u8 0, .int .u8 0, .int .u8 0, .int .u8 0, .int .u8 0, .int .u8 0, .int .u8 0, .int .u8 0, .int .u8 0, .int .u8 0, .int .u8 0, .int .u8 0, .int .u8 0, .int .u8 0, .int .u8 0, .int .u8 0, .int .u8 0, .int .u8 0] 24)).alloc (.cells #[.int .u8 0, .int .u8 0, .int .u8 0, .int .u8 0, .int .u8 0, .int .u8 0, .int .u8 0, .int .u8 0, .int .u8 0, .int .u8 0, .int .u8 0, .int .u8 0, .int .u8 0, .int .u8 0, .int .u8 0, .int .u8 0, .int .u8 0, .int .u8 0, .int .u8 0, .int .u8 0, .int .u8 0, .int .u8 0, .int .u8 0, .int .u8 0, .int .u8 0, .int .u8 0, .int .u8 0, .int .u8 0, .int .u8 0, .int .u8 0, .int .u8 0, .int .u8 0] 24)) := Lib.hid (by rw [hV]; rfl)
  clear r1 r2 hc hB hV
  go_enter Tryd.func11, Tryd.ntmps11
  go_upto_region 2 with (fail)
  rw [← HB.out, ← HV.out]
  clear HV
  go_upto_region 3 with (fail)
  go_wp2_with (first | (refine wpList_load_part a24 z32.toList rfl _ rfl rfl rfl (fun j u hu => by rw [Nat.zero_add, row_cell HR2.out, ← hu]; simp) ?_) | (refine wpList_store_row a24 _ _ rfl rfl rfl rfl rfl HR1.out rfl rfl rfl ?_))
  refine bodyPost_ret (ret_cell1 (cs := z32) rfl a24 rfl (by rw [row_setRow, if_pos rfl, HR1.out]; rfl) rfl) rfl ⟨rfl, HC.out.setRow (.inr (by rw [HB.out]; exact Nat.le_refl _)) _⟩
end Go.Proofs.L
