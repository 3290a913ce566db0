/- Proved here: lemmas and contracts (Words) for the laws of this seat, for all values of the stated types; no further condition. -/
import Derived.Test.YtfalldoimbedbaaRisesWalk
import Derived.Test.YtfalldoimbedbaaEq
open Go Go.RowKit Go.Lib
namespace Go.Proofs.L
def wordsL (f : Nat → Nat) : List Int := (List.range 32).map fun i => (f i : Int)
theorem wordsL_len (f) : (wordsL f).length = 32 := by simp [wordsL]
theorem wordsC_L (f) : (wordsC f).toArray = cellsK .u32 (wordsL f) := by simp [wordsC, wordsL, cellsK]
theorem a32 : aggT Try.prog 32 32 := aggT_of (by kernel_rfl)
theorem ld32 (ρ x d t p af g w) : Sem.run Try.prog (execOp ρ { dst := d, op := .load 32 x, type := t, pos := p, after := af, guard := g }) w = loadV Try.prog 32 32 w (ρ x) := exec_load_row a32 ρ x d t p af g w
theorem st32 (ρ x y d t p af g w) : Sem.run Try.prog (execOp ρ { dst := d, op := .store 32 x y, type := t, pos := p, after := af, guard := g }) w = storeV Try.prog 32 32 w (ρ x) (ρ y) := exec_store_row a32 ρ x y d t p af g w
attribute [local go_sem ↓] ld32 st32
theorem eq32 (f g : Nat → Nat) (w : World) : (Op.equalIn 10000 32 (.agg (wordsC f).toArray) (.agg (wordsC g).toArray)).run Try.prog w = .ok (decide (wordsL f = wordsL g)) w := by
  have h := run_equalIn_ints (P := Try.prog) w 9998 32 26 32 .u32 (wordsL f) (wordsL g) Try.underlying32 Try.underlying26 (by kernel_rfl) (wordsL_len f) (wordsL_len g)
  rw [wordsC_L, wordsC_L, show (10000 : Nat) = 9998 + 2 by rfl, h]
def zf (f : Nat → Nat) (k : Nat) : Nat → Nat := fun j => if j < k then f j else 0
theorem wordsC_row (f : Nat → Nat) (i v : Nat) (W : World) (b : Nat) (h : W.row? b = some (wordsC f).toArray) : (W.setCell ⟨b, i, none⟩ (.int .u32 (v : Int))).row? b = some (wordsC (up f i v)).toArray := by
  rw [row_setCell_same, h, Option.map_some]
  simp only [List.setIfInBounds_toArray, wordsC_set]
theorem wordsC_get (f : Nat → Nat) (i : Nat) (h : i < 32) : (wordsC f).toArray[i]? = some (.int .u32 (f i : Int)) := by simp [wordsC, h]
theorem wordsC_all (f : Nat → Nat) : allOne (wordsC f).toArray = true := by
  unfold allOne wordsC
  rw [List.all_eq_true]
  intro v hv
  simp only [List.mem_map, List.mem_range] at hv
  obtain ⟨i, -, rfl⟩ := hv; rfl
set_option maxRecDepth 100000 in
theorem words_in {w b S} (h : Fl w b S) : Calls Try.prog 13 #[.pointer (some ⟨b, 0, none⟩)] w fun e w' => e = .returned (.agg (wordsC S.f).toArray) ∧ Chg [] w w' := by
  have H := Lib.hid h
  have hlt := h.lt
  clear h
  go_enter Try.func13, Try.ntmps13
  go_wp2_with fail
  have z0 : (wordsC (fun _ => 0)).toArray = #[.int .u32 0, .int .u32 0, .int .u32 0, .int .u32 0, .int .u32 0, .int .u32 0, .int .u32 0, .int .u32 0, .int .u32 0, .int .u32 0, .int .u32 0, .int .u32 0, .int .u32 0, .int .u32 0, .int .u32 0, .int .u32 0, .int .u32 0, .int .u32 0, .int .u32 0, .int .u32 0, .int .u32 0, .int .u32 0, .int .u32 0, .int .u32 0, .int .u32 0, .int .u32 0, .int .u32 0, .int .u32 0, .int .u32 0, .int .u32 0, .int .u32 0, .int .u32 0] := by rfl
  obtain ⟨W2, hW2⟩ : ∃ W2, W2 = (w.alloc (.cells (wordsC (fun _ => 0)).toArray 32)).alloc (.cells (wordsC (fun _ => 0)).toArray 32) := ⟨_, rfl⟩
  have r0 : W2.row? w.heap.size = some (wordsC (fun _ => 0)).toArray := by rw [hW2, row_alloc_past _ _ _ (by simp), row_alloc_at _ _ _ _ rfl]
  have r1 : W2.row? (w.heap.size + 1) = some (wordsC (fun _ => 0)).toArray := by rw [hW2, row_alloc_at _ _ _ _ (by simp)]
  have hC : Chg [] w W2 := by rw [hW2]; exact ((Chg.refl _ _).alloc _).alloc _
  rw [z0] at hW2
  rw [← hW2]
  have HR0 := Lib.hid r0
  have HR1 := Lib.hid r1
  have HC := Lib.hid hC
  clear hW2 z0 r0 r1 hC
  go_loopw [5] (fun i wr => ∃ k : Nat, k ≤ 32 ∧ i = .int .i64 k ∧ wr.row? w.heap.size = some (wordsC (fun _ => 0)).toArray ∧ wr.row? (w.heap.size + 1) = some (wordsC (zf S.f k)).toArray ∧ Chg [] w wr) (fun i _ => 32 - (intOf i).toNat)
  case atStart => exact ⟨0, by omega, rfl, HR0.out, by have : zf S.f 0 = fun _ => 0 := by funext j; simp [zf]
                                                       rw [this]; exact HR1.out, HC.out⟩
  case round =>
    obtain ⟨k, hk, rfl, h0, h1, hC⟩ := hrel
    obtain ⟨wo, rfl⟩ : ∃ wo : World, wo = wr := ⟨_, rfl⟩
    have H0 := Lib.hid h0
    have H1 := Lib.hid h1
    have HCk := Lib.hid hC
    by_cases hk2 : k < 32
    · have dk : decide ((k : Int) < 32) = true := by simp; omega
      have hkI : (k : Int) < 32 := by omega
      have HR := Lib.hid (read_in (H.out.keep hC (by simp)) k hk2)
      have ck : wo.cell? ⟨w.heap.size + 1, k, none⟩ = some (.int .u32 (zf S.f k k : Nat)) := by rw [row_cell h1]; exact wordsC_get _ k hk2
      have fk := row_free h1 k
      clear h0 h1 hC
      go_wp2_with fail
      refine HR.out.mono ?_
      rintro e w2 ⟨rfl, rfl⟩
      go_wp2
      have e : up (zf S.f k) k (S.f k) = zf S.f (k + 1) := by
        funext j
        unfold up zf
        by_cases h : j = k
        · subst h; simp
        · rw [if_neg h]
          by_cases h2 : j < k
          · rw [if_pos h2, if_pos (by omega)]
          · rw [if_neg h2, if_neg (by omega)]
      have g := wordsC_row (zf S.f k) k (S.f k) _ _ H1.out
      rw [e] at g
      exact ⟨⟨k + 1, by omega, by go_num, by rw [row_setCell_other _ _ _ _ (by simp)]; exact H0.out, g, HCk.out.setCell (Or.inr (by simp)) _⟩, by simp only [intOf]; omega⟩
    · obtain rfl : k = 32 := by omega
      have e : (wordsC (zf S.f 32)).toArray = (wordsC S.f).toArray := by
        unfold wordsC
        congr 1
      rw [e] at h1
      have s0 : (wordsC (fun _ => 0)).toArray.size = 32 := by simp [wordsC]
      have s1 : (wordsC S.f).toArray.size = 32 := by simp [wordsC]
      have al := wordsC_all S.f
      obtain ⟨A, hA⟩ : ∃ A, A = (wordsC (fun _ => 0)).toArray := ⟨_, rfl⟩
      obtain ⟨B, hB⟩ : ∃ B, B = (wordsC S.f).toArray := ⟨_, rfl⟩
      rw [← hA] at h0 s0
      rw [← hB] at h1 s1 al
      have HBB := Lib.hid hB
      have l0 := row_lt h0
      have l1 := row_lt h1
      clear H0 H1 e hA hB hC HR0 HR1
      go_wp2
      refine bodyPost_ret (v := .agg B) (ret_cell1 rfl a32 rfl (by rw [row_setRow, if_pos rfl, h0]; rfl) s1) rfl ?_
      exact ⟨by rw [HBB.out], HCk.out.setRow (Or.inr (Nat.le_refl _)) _⟩
end Go.Proofs.L
