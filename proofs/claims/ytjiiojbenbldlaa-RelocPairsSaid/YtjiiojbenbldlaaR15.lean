/- Proved here: lemmas and contracts (R15) for the laws of this seat, for all values of the stated types; no further condition. -/
import Derived.Test.YtjiiojbenbldlaaR14x1
import Derived.Test.YtjiiojbenbldlaaR14x3
import Derived.Test.YtjiiojbenbldlaaR14x16
import Derived.Test.YtjiiojbenbldlaaR14x17
import Derived.Test.YtjiiojbenbldlaaR14x18
import Derived.Test.YtjiiojbenbldlaaR14x19
import Derived.Test.YtjiiojbenbldlaaR14x23
import Derived.Test.YtjiiojbenbldlaaR14x24
import Derived.Test.YtjiiojbenbldlaaR14x25
import Derived.Test.YtjiiojbenbldlaaR14x26
import Derived.Test.YtjiiojbenbldlaaR14x27
import Derived.Test.YtjiiojbenbldlaaR14x28
open Go Go.RowKit Go.Lib
namespace Go.Proofs.L
attribute [local irreducible] wpT
set_option maxRecDepth 100000 in
set_option maxHeartbeats 16000000 in
theorem one_bad {w : World} {J mb : Nat} {v : Jv} {Rs : List Rl} {Ys : List Nat} {Ss : List Sp} {f : Nat → Nat} {ra add : Nat} {sy ty : Int} (hH : OneH w J mb v Rs Ys Ss f) (hra : ra < 4294967296) (hadd : add < 4294967296) (hty : sizeN ty = 0) :
    Calls Try.prog 23 #[.pointer (some ⟨J, 0, none⟩), .agg (RlC ⟨ra, ty, sy, add⟩).toArray] w (OneQ w mb (oneN v.bias Rs Ys Ss f ⟨ra, ty, sy, add⟩)) := by
  obtain ⟨X, hX⟩ : ∃ X, X = w.alloc (.cells (RlC ⟨ra, ty, sy, add⟩).toArray 32) := ⟨_, rfl⟩
  obtain ⟨B, hB⟩ : ∃ B, B = w.heap.size := ⟨_, rfl⟩
  have hrX : X.row? B = some (RlC ⟨ra, ty, sy, add⟩).toArray := by rw [hX, hB]; exact row_alloc_at _ _ _ _ rfl
  have hcX : Chg [] w X := by rw [hX]; exact (Chg.refl _ _).alloc _
  have HH : Hid (∀ W, Chg [] X W → OneH W J mb v Rs Ys Ss f) := Lib.hid fun W hW => (hH.keep hcX).keep hW
  have HR : Hid (∀ W, Chg [] X W → W.row? B = some (RlC ⟨ra, ty, sy, add⟩).toArray) := Lib.hid fun W hW => by rw [hW.row (row_lt hrX) (by simp)]; exact hrX
  have HQ : Hid (∀ W, Chg [] X W → W.cell? ⟨B, 0, none⟩ = some (.int .u32 (ra : Int)) ∧ W.cell? ⟨B, 1, none⟩ = some (.int .i64 ty) ∧ W.cell? ⟨B, 2, none⟩ = some (.int .i64 sy) ∧ W.cell? ⟨B, 3, none⟩ = some (.int .u32 (add : Int))) := Lib.hid fun W hW => ⟨by rw [row_cell (HR.out W hW)]; rfl, by rw [row_cell (HR.out W hW)]; rfl, by rw [row_cell (HR.out W hW)]; rfl, by rw [row_cell (HR.out W hW)]; rfl⟩
  have HCX := Lib.hid hcX
  have HX := Lib.hid hX
  have HB := Lib.hid hB
  obtain ⟨p, hp⟩ : ∃ p, p = (v.bias + ra) % 4294967296 := ⟨_, rfl⟩
  have HPL : Hid (p < 4294967296) := Lib.hid (by omega)
  have wp := addw_wrap hp
  have HF := Lib.hid hH.hf
  have HV : Hid (oneN v.bias Rs Ys Ss f ⟨ra, ty, sy, add⟩ = (13, f)) := Lib.hid (by unfold oneN; rw [if_pos (.inl hty)])
  have HTY := Lib.hid hty
  have HADD := Lib.hid hadd
  have n1 : ¬ ty = 1 := by rintro rfl; exact absurd hty (by decide)
  have n3 : ¬ ty = 3 := by rintro rfl; exact absurd hty (by decide)
  clear hX hB hrX hcX hH hp hadd hra hty
  go_enter Try.func23, Try.ntmps23
  go_upto_region 1 with (fail)
  rw [← HX.out, ← HB.out]
  clear HX HB
  refine wp_region_C (fun w' => w'.cell? ⟨J, 4, none⟩ = some (.int .u32 (v.bias : Int)) ∧ w'.cell? ⟨B, 0, none⟩ = some (.int .u32 (ra : Int))) [(0, 0), (1, 0), (2, 0), (3, 1), (4, 0), (5, 1), (6, 0), (7, 0)] rfl (by kernel_rfl) ?hSA ?hTA
  case hSA => exact ⟨(HH.out X (Chg.refl _ _)).job.c4, (HQ.out X (Chg.refl _ _)).1⟩
  refine wpT_pureD (v := ?_) (some 15) rfl rfl (by rfl) (fun w' => ?_) ?_
  rotate_left
  · (go_simp; try with_reducible rfl)
  try simp only [Act.put, List.setIfInBounds_toArray, List.set_cons_zero, List.set_cons_succ]
  refine wpT_pureD (v := ?_) (some 16) rfl rfl (by rfl) (fun w' => ?_) ?_
  rotate_left
  · (go_simp; try with_reducible rfl)
  try simp only [Act.put, List.setIfInBounds_toArray, List.set_cons_zero, List.set_cons_succ]
  refine wpT_pureD (v := ?_) (some 17) rfl rfl (by rfl) (fun w' => ?_) ?_
  rotate_left
  · (go_simp; try with_reducible rfl)
  try simp only [Act.put, List.setIfInBounds_toArray, List.set_cons_zero, List.set_cons_succ]
  refine wpT_readD (v := ?_) (some 18) rfl rfl (by rfl) (fun w' hw => ?_) ?_
  rotate_left
  · (obtain ⟨q0, q1⟩ := hw; go_simp; try with_reducible rfl)
  try simp only [Act.put, List.setIfInBounds_toArray, List.set_cons_zero, List.set_cons_succ]
  refine wpT_pureD (v := ?_) (some 19) rfl rfl (by rfl) (fun w' => ?_) ?_
  rotate_left
  · (go_simp; try with_reducible rfl)
  try simp only [Act.put, List.setIfInBounds_toArray, List.set_cons_zero, List.set_cons_succ]
  refine wpT_readD (v := ?_) (some 20) rfl rfl (by rfl) (fun w' hw => ?_) ?_
  rotate_left
  · (obtain ⟨q0, q1⟩ := hw; go_simp; try with_reducible rfl)
  try simp only [Act.put, List.setIfInBounds_toArray, List.set_cons_zero, List.set_cons_succ]
  refine wpT_pureD (v := ?_) (some 21) rfl rfl (by rfl) (fun w' => ?_) ?_
  rotate_left
  · (go_simp; try with_reducible rfl)
  try simp only [Act.put, List.setIfInBounds_toArray, List.set_cons_zero, List.set_cons_succ]
  refine wpT_pureD (v := ?_) (some 5) rfl rfl (by rfl) (fun w' => ?_) ?_
  rotate_left
  · (go_simp; try with_reducible rfl)
  try simp only [Act.put, List.setIfInBounds_toArray, List.set_cons_zero, List.set_cons_succ]
  refine wpT_end ?_
  clear wp
  obtain ⟨Y, hY⟩ : ∃ Y, Y = X.drew := ⟨_, rfl⟩
  have HY : Hid (Chg [] X Y) := Lib.hid (by rw [hY]; exact (Chg.refl _ _).drew)
  rw [← hY]
  clear hY
  have c1 : Y.cell? ⟨B, 1, none⟩ = some (.int .i64 ty) := (HQ.out Y HY.out).2.1
  go_wp2_with fail
  refine (size_any ty Y).mono ?_
  rintro e w' ⟨rfl, hw⟩
  obtain rfl := hw.symm
  rw [HTY.out, show ((0 : Nat) : Int) = 0 from rfl]
  go_wp2
  go_ret
  exact ⟨by rw [HV.out]; rfl, by rw [HV.out]; exact (HH.out Y HY.out).row, chg_any (HCX.out.trans HY.out)⟩
theorem one_any {w : World} {J mb : Nat} {v : Jv} {Rs : List Rl} {Ys : List Nat} {Ss : List Sp} {f : Nat → Nat} (r : Rl) (hH : OneH w J mb v Rs Ys Ss f) (hra : r.at_ < 4294967296) (hadd : r.add < 4294967296) :
    Calls Try.prog 23 #[.pointer (some ⟨J, 0, none⟩), .agg (RlC r).toArray] w (OneQ w mb (oneN v.bias Rs Ys Ss f r)) := by
  obtain ⟨ra, ty, sy, add⟩ := r
  by_cases h1 : ty = 18 ∨ ty = 19 ∨ ty = 1 ∨ ty = 3 ∨ ty = 16 ∨ ty = 17 ∨ ty = 23 ∨ ty = 24 ∨ ty = 25 ∨ ty = 26 ∨ ty = 27 ∨ ty = 28
  · rcases h1 with rfl | rfl | rfl | rfl | rfl | rfl | rfl | rfl | rfl | rfl | rfl | rfl
    · exact one_18 hH hra hadd
    · exact one_19 hH hra hadd
    · exact one_1 hH hra hadd
    · exact one_3 hH hra hadd
    · exact one_16 hH hra hadd
    · exact one_17 hH hra hadd
    · exact one_23 hH hra hadd
    · exact one_24 hH hra hadd
    · exact one_25 hH hra hadd
    · exact one_26 hH hra hadd
    · exact one_27 hH hra hadd
    · exact one_28 hH hra hadd
  · exact one_bad hH hra hadd (by unfold sizeN; rw [if_neg (by omega), if_neg (by omega)])
end Go.Proofs.L
