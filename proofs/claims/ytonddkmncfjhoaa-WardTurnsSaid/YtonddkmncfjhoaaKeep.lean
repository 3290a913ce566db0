/- Proved here: lemmas and contracts (Keep) for the laws of this seat, for all values of the stated types; no further condition. -/
import Derived.Test.YtonddkmncfjhoaaEnd
open Go Go.RowKit Go.Lib
namespace Go.Proofs.L
attribute [local go_sem ↓] ld38
def xL (X : Nat → Nat) : List Value := (List.range 32).map fun i => .int .u32 (X i : Int)
theorem xL_len (X) : (xL X).length = 32 := by simp [xL]
theorem xL_get (X) (i : Nat) (h : i < 32) : (xL X)[i]? = some (.int .u32 (X i : Int)) := by simp [xL, h]
theorem xL_all (X) : allOne (xL X).toArray = true := List.all_eq_true.2 fun v hv => by
  simp only [xL, List.mem_map, List.mem_range] at hv
  obtain ⟨i, -, rfl⟩ := hv; rfl
def x0 (X : Nat → Nat) : Nat → Nat := fun i => if i = 0 then 0 else X i
theorem xL_set0 (X) : (xL X).toArray.setIfInBounds 0 (.int .u32 0) = (xL (x0 X)).toArray := by
  rw [List.setIfInBounds_toArray]
  congr 1
def keepSta (S : Sta) (X : Nat → Nat) (pc : Nat) : Sta := { S with x := x0 X, p := pc }
theorem keep_off {w b n f t g o cap} (h : Wd w b n f t g o cap) (ht : t < 0) (X : Array Value) (pc : Int) : Calls Try.prog 16 #[.pointer (some ⟨b, 0, none⟩), .agg X, .int .u32 pc] w fun e w' => e = .returned (.tuple #[]) ∧ Chg [] w w' := by
  have HC : Hid (Chg [] w (w.alloc (.cells X 38))) := Lib.hid ((Chg.refl [] w).alloc _)
  have HT := turn_in (h.keep HC.out (by simp) (by simp))
  rw [if_pos ht] at HT
  have HT := Lib.hid HT
  clear h
  go_enter Try.func16, Try.ntmps16
  go_wp2_with fail
  refine HT.out.mono ?_
  rintro e w' ⟨rfl, rfl⟩
  go_wp2
  go_end0
  exact ⟨rfl, HC.out⟩
theorem stL_x3 (S : Sta) (x : Nat → Nat) : stL { S with x := x } = (stL S).take 3 ++ xL x ++ (stL S).drop (3 + (xL x).length) := by
  rw [xL_len, List.drop_eq_nil_of_le (by rw [stL_len]; omega), List.append_nil]
  rfl
set_option maxHeartbeats 800000 in
theorem keep_in {w b n f g o cap} (t : Nat) (h : Wd w b n f (t : Int) g o cap) (ht : t < n) (X : Nat → Nat) (pc : Nat) : Calls Try.prog 16 #[.pointer (some ⟨b, 0, none⟩), .agg (xL X).toArray, .int .u32 (pc : Int)] w fun e w' => e = .returned (.tuple #[]) ∧ Wd w' b n (ups f t (keepSta (f t) X pc)) (t : Int) g o cap ∧ Chg [b, g] w w' := by
  obtain ⟨W1, hW1⟩ : ∃ W1, W1 = w.alloc (.cells (xL X).toArray 38) := ⟨_, rfl⟩
  obtain ⟨B, hB⟩ : ∃ B, B = w.heap.size := ⟨_, rfl⟩
  have hr : W1.row? B = some (xL X).toArray := by rw [hW1]; exact row_alloc_at _ _ _ _ hB
  have hc1 : Chg [] w W1 := by rw [hW1]; exact (Chg.refl _ _).alloc _
  have h1 := h.keep hc1 (by simp) (by simp)
  have HT := turn_in h1
  rw [if_neg (by omega)] at HT
  have HT := Lib.hid HT
  have cB : W1.cell? ⟨B, 0, none⟩ = some (.int .u32 (X 0 : Int)) := by rw [row_cell hr]; simpa using xL_get X 0 (by omega)
  have fB := row_free hr 0
  have hbB : b ≠ B := by have := h.lt; omega
  have hgB : g ≠ B := by have := h.ltg; omega
  obtain ⟨W2, hW2⟩ : ∃ W2, W2 = W1.setCell ⟨B, 0, none⟩ (.int .u32 0) := ⟨_, rfl⟩
  have hc2 : Chg [B] W1 W2 := by rw [hW2]; exact (Chg.refl _ _).setCell (Or.inl (by simp)) _
  have r2 : W2.row? B = some (xL (x0 X)).toArray := by rw [hW2, row_setCell_same, hr, Option.map_some, xL_set0]
  have h2 := h1.keep hc2 (by simpa using hbB) (by simpa using hgB)
  have s0 := h2.c0
  have HC : Hid (Chg [b, g] w W2.drew) := Lib.hid (Chg.drew ⟨hc2.os.trans hc1.os, hc2.tape.trans hc1.tape, hc2.output.trans hc1.output, Nat.le_trans hc1.size hc2.size, fun k hk hE => (hc2.block k (Nat.lt_of_lt_of_le hk hc1.size) (by simp; omega)).trans (hc1.block k hk (by simp))⟩)
  have HD : Hid (Wd W2.drew b n f (t : Int) g o cap) := Lib.hid (h2.keep ((Chg.refl [] W2).drew) (by simp) (by simp))
  have HL : Hid (t < n) := Lib.hid ht
  have hI : (t : Int) < (n : Int) := by omega
  have hBg : B ≠ g := hgB.symm
  have d0 : decide ((t : Int) ≥ 0) = true := by simp
  have d1 : decide ((0 : Int) ≤ (t : Int)) = true := by simp
  have hsz : (xL (x0 X)).toArray.size = 32 := by simp [xL_len]
  have HA := Lib.hid (xL_all (x0 X))
  have hln := xL_len (x0 X)
  obtain ⟨A, hA⟩ : ∃ A, A = xL (x0 X) := ⟨_, rfl⟩
  rw [← hA] at r2 hsz HA hln
  have HAA := Lib.hid hA
  obtain ⟨A0, hA0⟩ : ∃ A0, A0 = (xL X).toArray := ⟨_, rfl⟩
  rw [← hA0] at hW1 ⊢
  have HW2 := Lib.hid hW2
  clear h h1 h2 hc1 hc2 hr ht hA hA0 hW2
  go_enter Try.func16, Try.ntmps16
  go_wp2_with fail
  rw [← hB, ← hW1]
  clear hW1 hB
  refine HT.out.mono ?_
  rintro e w' ⟨rfl, rfl⟩
  go_wp2_with fail
  rw [← HW2.out]
  clear cB fB HT
  refine wp_region_C (fun w' => w'.cell? ⟨b, 0, none⟩ = some (.slice (some ⟨g, o, none⟩) n cap) ∧ w'.row? B = some A.toArray) [(0, 0), (1, 0), (2, 0), (3, 1), (4, 0), (5, 0), (6, 0), (7, 0), (8, 1), (9, 0), (10, 1), (11, 0), (12, 0), (13, 0), (14, 2), (15, 0), (16, 0), (17, 2)] rfl (by kernel_rfl) ?hSA ?hTA
  case hSA => exact ⟨s0, r2⟩
  refine wpT_pureD (v := ?_) (some 12) rfl rfl (by rfl) (fun w' => ?_) ?_
  rotate_left
  · (go_simp; try with_reducible rfl)
  try simp only [Act.put, List.setIfInBounds_toArray, List.set_cons_zero, List.set_cons_succ]
  refine wpT_pureD (v := ?_) (some 13) rfl rfl (by rfl) (fun w' => ?_) ?_
  rotate_left
  · (go_simp; try with_reducible rfl)
  try simp only [Act.put, List.setIfInBounds_toArray, List.set_cons_zero, List.set_cons_succ]
  refine wpT_pureD (v := ?_) (some 14) rfl rfl (by rfl) (fun w' => ?_) ?_
  rotate_left
  · (go_simp; try with_reducible rfl)
  try simp only [Act.put, List.setIfInBounds_toArray, List.set_cons_zero, List.set_cons_succ]
  refine wpT_readD (v := ?_) (some 15) rfl rfl (by rfl) (fun w' hw => ?_) ?_
  rotate_left
  · (obtain ⟨q0, q1⟩ := hw; go_simp; try with_reducible rfl)
  try simp only [Act.put, List.setIfInBounds_toArray, List.set_cons_zero, List.set_cons_succ]
  refine wpT_pureD (v := ?_) (some 16) rfl rfl (by rfl) (fun w' => ?_) ?_
  rotate_left
  · (go_simp; try with_reducible rfl)
  try simp only [Act.put, List.setIfInBounds_toArray, List.set_cons_zero, List.set_cons_succ]
  refine wpT_pureD (v := ?_) (some 17) rfl rfl (by rfl) (fun w' => ?_) ?_
  rotate_left
  · (go_simp; try with_reducible rfl)
  try simp only [Act.put, List.setIfInBounds_toArray, List.set_cons_zero, List.set_cons_succ]
  refine wpT_pureD (v := ?_) (some 18) rfl rfl (by rfl) (fun w' => ?_) ?_
  rotate_left
  · (go_simp; try with_reducible rfl)
  try simp only [Act.put, List.setIfInBounds_toArray, List.set_cons_zero, List.set_cons_succ]
  refine wpT_pureD (v := ?_) (some 19) rfl rfl (by rfl) (fun w' => ?_) ?_
  rotate_left
  · (go_simp; try with_reducible rfl)
  try simp only [Act.put, List.setIfInBounds_toArray, List.set_cons_zero, List.set_cons_succ]
  refine wpT_readD (v := ?_) (some 20) rfl rfl (by rfl) (fun w' hw => ?_) ?_
  rotate_left
  · (obtain ⟨q0, q1⟩ := hw; go_simp; try with_reducible rfl)
  try simp only [Act.put, List.setIfInBounds_toArray, List.set_cons_zero, List.set_cons_succ]
  refine wpT_pureD (v := ?_) (some 21) rfl rfl (by rfl) (fun w' => ?_) ?_
  rotate_left
  · (go_simp; try with_reducible rfl)
  try simp only [Act.put, List.setIfInBounds_toArray, List.set_cons_zero, List.set_cons_succ]
  refine wpT_load_part a38 A (some 22) _ rfl rfl rfl (by rfl) rfl hln (fun w' hw j u hu => by rw [Nat.zero_add, row_cell hw.2]; simpa using hu) ?_
  try simp only [Act.put, List.setIfInBounds_toArray, List.set_cons_zero, List.set_cons_succ]
  try simp only [Act.put, List.setIfInBounds_toArray, List.set_cons_zero, List.set_cons_succ]
  refine wpT_pureD (v := ?_) (some 23) rfl rfl (by rfl) (fun w' => ?_) ?_
  rotate_left
  · (go_simp; try with_reducible rfl)
  try simp only [Act.put, List.setIfInBounds_toArray, List.set_cons_zero, List.set_cons_succ]
  refine wpT_pureD (v := ?_) (some 24) rfl rfl (by rfl) (fun w' => ?_) ?_
  rotate_left
  · (go_simp; try with_reducible rfl)
  try simp only [Act.put, List.setIfInBounds_toArray, List.set_cons_zero, List.set_cons_succ]
  refine wpT_pureD (v := ?_) (some 25) rfl rfl (by rfl) (fun w' => ?_) ?_
  rotate_left
  · (go_simp; try with_reducible rfl)
  try simp only [Act.put, List.setIfInBounds_toArray, List.set_cons_zero, List.set_cons_succ]
  refine wpT_eff rfl (by rfl) (fun K hK => ?_)
  have hrm : ∀ j, j < 32 → (W2.drew.cell? ⟨g, o + t * 35 + 3 + j, none⟩).isSome = true ∧ W2.drew.frozen? ⟨g, o + t * 35 + 3 + j, none⟩ = false := fun j hj => by
    have := HD.out.2.1.room (t * 35 + 3 + j) (by have := HL.out; omega)
    rwa [show o + (t * 35 + 3 + j) = o + t * 35 + 3 + j by omega] at this
  have HR := Lib.hid hrm
  clear hrm
  go_wp2_with (refine wpList_store_part a38 A.toArray rfl rfl _ _ rfl rfl rfl hsz (fun j hj => (HR.out j hj).1) (fun j hj => (HR.out j hj).2) HA.out ?_)
  have hP := HD.out.puts t 3 A { f t with x := x0 X } HL.out (by rw [HAA.out, xL_len]; omega) (by rw [HAA.out]; exact stL_x3 _ _)
  have hCP := chg_setCells g A (o + t * 35 + 3) W2.drew
  obtain ⟨W3, hW3⟩ : ∃ W3, W3 = W2.drew.setCells g (o + t * 35 + 3) A := ⟨_, rfl⟩
  rw [← hW3] at hP hCP
  have e3 : (A.toArray.toList : List Value) = A := rfl
  try rw [e3]
  rw [← hW3]
  have p2 := hP.ce t HL.out 2 _ (by unfold ups; rw [if_pos rfl]; exact stL_2 _)
  have q2 := hP.fe t HL.out 2 (by omega)
  have p0 := hP.c0
  have r3 : W3.row? B = some A.toArray := by rw [hCP.row (row_lt r2) (by simpa using hgB.symm)]; exact r2
  have HP := Lib.hid hP
  have HCP : Hid (Chg [b, g] w W3) := Lib.hid (HC.out.trans (chgE hCP (by simp)))
  clear hP hCP hW3
  refine hK _ _ ⟨p0, r3⟩ ?_
  clear hK K
  refine wpT_pureD (v := ?_) (some 26) rfl rfl (by rfl) (fun w' => ?_) ?_
  rotate_left
  · (go_simp; try with_reducible rfl)
  try simp only [Act.put, List.setIfInBounds_toArray, List.set_cons_zero, List.set_cons_succ]
  refine wpT_pureD (v := ?_) (some 27) rfl rfl (by rfl) (fun w' => ?_) ?_
  rotate_left
  · (go_simp; try with_reducible rfl)
  try simp only [Act.put, List.setIfInBounds_toArray, List.set_cons_zero, List.set_cons_succ]
  refine wpT_eff rfl (by rfl) (fun K hK => ?_)
  go_wp2_with fail
  refine hK _ _ ⟨by go_simp; try with_reducible rfl, by go_simp; try with_reducible rfl⟩ ?_
  clear hK K
  refine wpT_end ?_
  go_wp2
  go_end0
  refine ⟨rfl, ?_, HCP.out.setCell (Or.inl (by simp)) _⟩
  have h2 := HP.out.put t 2 (.int .u32 (pc : Int)) (keepSta (f t) X pc) HL.out (by omega) (by unfold ups; rw [if_pos rfl]; rfl)
  have e : ups (ups f t { f t with x := x0 X }) t (keepSta (f t) X pc) = ups f t (keepSta (f t) X pc) := by
    funext k; unfold ups; split <;> rfl
  rw [e] at h2
  exact h2
end Go.Proofs.L
