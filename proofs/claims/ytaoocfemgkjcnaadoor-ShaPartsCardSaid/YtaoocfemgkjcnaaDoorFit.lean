/- Proved here: lemmas and contracts (Fit) for the laws of this seat, for all values of the stated types; no further condition. -/
import Derived.Test.YtaoocfemgkjcnaaDoorOf
import Derived.Lib.SlBytesConst
open Go Go.RowKit Go.Lib
namespace Go.Proofs.L
attribute [local irreducible] wpT
def abcL : List Nat := sumN (writeS s0 [97, 98, 99])
theorem abc0 : abcL.getD 0 0 = 186 ∧ abcL.getD 1 0 = 120 ∧ abcL.getD 31 0 = 173 := by decide +kernel
theorem bytesThree (w : World) (x y z : Nat) (hx : x < 256) (hy : y < 256) (hz : z < 256) : BytesAt (w.alloc (.cells #[.int .u8 (x : Int), .int .u8 (y : Int), .int .u8 (z : Int)] 5 (3, 4))) w.heap.size 0 [x, y, z] := by
  have h : ∀ j, (w.alloc (.cells #[.int .u8 (x : Int), .int .u8 (y : Int), .int .u8 (z : Int)] 5 (3, 4))).cell? ⟨w.heap.size, j, none⟩ = #[Value.int .u8 (x : Int), .int .u8 (y : Int), .int .u8 (z : Int)][j]? := fun j => by
    have : (w.alloc (.cells #[.int .u8 (x : Int), .int .u8 (y : Int), .int .u8 (z : Int)] 5 (3, 4))).heap[w.heap.size]? = some (.cells #[.int .u8 (x : Int), .int .u8 (y : Int), .int .u8 (z : Int)] 5 (3, 4)) := by
      show (w.heap.push _)[w.heap.size]? = _
      simp
    unfold World.cell?
    simp only [this]; rfl
  intro j d hj
  rw [Nat.zero_add, h j]
  rcases j with _ | _ | _ | j
  · obtain rfl := Option.some.inj hj; exact ⟨rfl, hx⟩
  · obtain rfl := Option.some.inj hj; exact ⟨rfl, hy⟩
  · obtain rfl := Option.some.inj hj; exact ⟨rfl, hz⟩
  · simp at hj
set_option maxRecDepth 100000 in
theorem fit_any {w : World} (hL : LaidOk w) (hw0 : 0 < w.heap.size) :
    Calls Tryd.prog 6 #[] w fun e w' => e = .returned (.bool true) ∧ Chg [] w w' := by
  obtain ⟨U, hU⟩ : ∃ U, U = w.alloc (.cells #[.int .u8 97, .int .u8 98, .int .u8 99] 5 (3, 4)) := ⟨_, rfl⟩
  have hrU : BytesAt U w.heap.size 0 [97, 98, 99] := by rw [hU]; exact bytesThree w 97 98 99 (by decide) (by decide) (by decide)
  have hcU : Chg [] w U := by rw [hU]; exact (Chg.refl _ _).alloc _
  have HU := Lib.hid hU
  have HRU := Lib.hid hrU
  have HCU := Lib.hid hcU
  have HL := Lib.hid (hL.keep hcU (by simp))
  have HW0 := Lib.hid hw0
  clear hU hrU hcU hL hw0
  have hcv : Sem.run Tryd.prog (convert 22 22 (.slice (some ⟨w.heap.size, 0, none⟩) 3 3)) (w.alloc (.cells #[.int .u8 97, .int .u8 98, .int .u8 99] 5)) = .ok (.slice (some ⟨w.heap.size, 0, none⟩) 3 3) U := by
    rw [HU.out]; exact Lib.run_convert_bytes_const w 22 5 _ 3 3 Tryd.underlying22 Tryd.underlying5
  go_enter Tryd.func6, Tryd.ntmps6
  go_wp2_with fail
  refine (of_any (L := [97, 98, 99]) (b1 := w.heap.size) (o1 := 0) HRU.out rfl (fun _ => rfl) (by decide) HL.out (by have := HCU.out.size; have := HW0.out; omega)).mono ?_
  rintro e w1 ⟨rfl, hc1⟩
  obtain ⟨D, hD⟩ : ∃ D, D = (natL .u8 (sumN (writeS s0 [97, 98, 99]))).toArray := ⟨_, rfl⟩
  rw [← hD]
  have hS : D.size = 32 := by rw [hD]; show (natL .u8 (sumN (writeS s0 [97, 98, 99]))).length = 32; rw [natL_len]; exact outN_len _ _
  have hO : allOne D = true := by rw [hD]; exact natU8_one _
  have d0 : D[0]? = some (.int .u8 186) := by rw [hD, natL_get _ _ _ (by rw [sumN, outN_len]; decide)]; exact congrArg (fun n : Nat => some (Value.int .u8 (n : Int))) abc0.1
  have d1 : D[1]? = some (.int .u8 120) := by rw [hD, natL_get _ _ _ (by rw [sumN, outN_len]; decide)]; exact congrArg (fun n : Nat => some (Value.int .u8 (n : Int))) abc0.2.1
  have d31 : D[31]? = some (.int .u8 173) := by rw [hD, natL_get _ _ _ (by rw [sumN, outN_len]; decide)]; exact congrArg (fun n : Nat => some (Value.int .u8 (n : Int))) abc0.2.2
  obtain ⟨X, hX⟩ : ∃ X, X = w1.alloc (.cells D 24) := ⟨_, rfl⟩
  obtain ⟨B, hB⟩ : ∃ B, B = w1.heap.size := ⟨_, rfl⟩
  have hr : X.row? B = some D := by rw [hX, hB]; exact row_alloc_at _ _ _ _ rfl
  have c0 : X.cell? ⟨B, 0, none⟩ = some (.int .u8 186) := by rw [row_cell hr]; exact d0
  have c1 : X.cell? ⟨B, 1, none⟩ = some (.int .u8 120) := by rw [row_cell hr]; exact d1
  have c31 : X.cell? ⟨B, 31, none⟩ = some (.int .u8 173) := by rw [row_cell hr]; exact d31
  have HCX : Hid (Chg [] w X) := Lib.hid (by rw [hX]; exact (HCU.out.trans hc1).alloc _)
  have HX := Lib.hid hX
  have HB := Lib.hid hB
  have HS := Lib.hid hS
  have HO := Lib.hid hO
  clear hcv hc1 hD hS hO d0 d1 d31 hr hX hB
  go_upto_region 2 with (refine wpList_store_new a24 _ _ rfl rfl rfl rfl rfl rfl HS.out HO.out ?_)
  rw [← HX.out, ← HB.out]
  clear HX HB
  go_wp2
  go_ret
  exact ⟨rfl, HCX.out⟩
end Go.Proofs.L
