/- Proved here: lemmas and contracts (New) for the laws of this seat, for all values of the stated types; no further condition. -/
import Derived.Test.YtfalldoimbedbaaErase
open Go Go.RowKit Go.Lib
namespace Go.Proofs.L
theorem flC_all (S : FS) : allOne (flC S) = true := by
  unfold allOne flC wordsC
  rw [List.all_eq_true]
  intro v hv
  simp only [List.mem_append, List.mem_map, List.mem_range, List.mem_cons, List.not_mem_nil, or_false] at hv
  rcases hv with ⟨i, -, rfl⟩ | rfl | rfl | rfl <;> rfl
theorem a53 : aggT Try.prog 53 35 := aggT_of (by kernel_rfl)
theorem ld53 (ρ x d t p af g w) : Sem.run Try.prog (execOp ρ { dst := d, op := .load 53 x, type := t, pos := p, after := af, guard := g }) w = loadV Try.prog 35 53 w (ρ x) := exec_load_row a53 ρ x d t p af g w
theorem st53 (ρ x y d t p af g w) : Sem.run Try.prog (execOp ρ { dst := d, op := .store 53 x y, type := t, pos := p, after := af, guard := g }) w = storeV Try.prog 35 53 w (ρ x) (ρ y) := exec_store_row a53 ρ x y d t p af g w
attribute [local go_sem ↓] ld53 st53
theorem fuel_nil (n x : Int) (w : World) : Calls Try.prog 19 #[.pointer none, .int .i64 n, .int .u32 x] w fun e w' => e = .returned (.tuple #[]) ∧ w' = w := by
  go_enter Try.func19, Try.ntmps19
  go_wp2
  go_end0
  exact ⟨rfl, rfl⟩
theorem fuel_in {w b S} (h : Fl w b S) (n : Int) (x : Nat) : Calls Try.prog 19 #[.pointer (some ⟨b, 0, none⟩), .int .i64 n, .int .u32 (x : Int)] w fun e w' => e = .returned (.tuple #[]) ∧ Fl w' b { S with fu := max n (-1), tn := x } ∧ Chg [b] w w' := by
  have c2 := h.c32
  have c3 := h.c33
  have f2 := h.fr 32
  have f3 := h.fr 33
  have H := Lib.hid h
  clear h
  obtain ⟨y, hy⟩ : ∃ y, y = max n (-1) := ⟨_, rfl⟩
  have HY := Lib.hid hy
  rw [← hy]
  clear hy
  go_enter Try.func19, Try.ntmps19
  go_wp2
  · go_end0
    have hy := HY.out
    have : y = -1 := by omega
    refine ⟨rfl, ?_, ((Chg.refl _ _).setCell (Or.inl (by simp)) _).setCell (Or.inl (by simp)) _⟩
    rw [this]
    exact (H.out.set32 (-1)).set33 x
  · go_end0
    have hy := HY.out
    have : y = n := by omega
    refine ⟨rfl, ?_, ((Chg.refl _ _).setCell (Or.inl (by simp)) _).setCell (Or.inl (by simp)) _⟩
    rw [this]
    exact (H.out.set32 n).set33 x
theorem dead_nil (w : World) : Calls Try.prog 23 #[.pointer none] w fun e w' => e = .returned (.bool false) ∧ w' = w := by
  go_enter Try.func23, Try.ntmps23
  go_wp2
  go_ret
  exact ⟨rfl, rfl⟩
theorem dead_in {w b S} (h : Fl w b S) : Calls Try.prog 23 #[.pointer (some ⟨b, 0, none⟩)] w fun e w' => e = .returned (.bool S.de) ∧ w' = w := by
  have c4 := h.c34
  clear h
  go_enter Try.func23, Try.ntmps23
  go_wp2
  go_ret
  exact ⟨rfl, rfl⟩
theorem again_nil (w : World) : Calls Try.prog 16 #[.pointer none] w fun e w' => e = .returned (.pointer none) ∧ w' = w := by
  go_enter Try.func16, Try.ntmps16
  go_wp2
  go_ret
  exact ⟨rfl, rfl⟩
theorem again_in {w b S} (h : Fl w b S) : Calls Try.prog 16 #[.pointer (some ⟨b, 0, none⟩)] w fun e w' => e = .returned (.pointer (some ⟨w.heap.size, 0, none⟩)) ∧ Fl w' w.heap.size { S with fu := -1, tn := 0, de := false } ∧ Chg [] w w' := by
  have hr : w.row? b = some (flC S) := h
  have hlt := h.lt
  have hs := flC_size S
  have H := Lib.hid h
  clear h
  obtain ⟨C, hC⟩ : ∃ C, C = flC S := ⟨_, rfl⟩
  have k2 := flC_32 S
  have k3 := flC_33 S
  have k4 := flC_34 S
  have k5 := flC_all S
  rw [← hC] at hr hs k2 k3 k4 k5
  have HC := Lib.hid hC
  clear hC
  go_enter Try.func16, Try.ntmps16
  go_wp2
  go_ret
  refine ⟨rfl, ?_, (Chg.refl _ _).alloc _⟩
  unfold Fl
  rw [row_alloc_at _ _ _ _ rfl, HC.out, flC_set32]
  have e := flC_set33 { S with fu := -1 } 0
  rw [show (((0 : Nat) : Int)) = 0 from rfl] at e
  rw [e, flC_set34]
def newS : FS := ⟨fun _ => 4294967295, -1, 0, false⟩
theorem newS_ok : newS.Ok := ⟨fun _ => by show 4294967295 < 4294967296; decide, by decide, by decide⟩
def newK (k : Nat) : FS := ⟨fun j => if j < k then 4294967295 else 0, -1, 0, false⟩
theorem new_any (w : World) : Calls Try.prog 9 #[] w fun e w' => e = .returned (.pointer (some ⟨w.heap.size, 0, none⟩)) ∧ Fl w' w.heap.size newS ∧ Chg [] w w' := by
  go_enter Try.func9, Try.ntmps9
  go_wp2_with fail
  obtain ⟨W1, hW⟩ : ∃ W1, W1 = w.alloc (.cells (flC (newK 0)) 53) := ⟨_, rfl⟩
  have h0 : flC (newK 0) = #[.int .u32 0, .int .u32 0, .int .u32 0, .int .u32 0, .int .u32 0, .int .u32 0, .int .u32 0, .int .u32 0, .int .u32 0, .int .u32 0, .int .u32 0, .int .u32 0, .int .u32 0, .int .u32 0, .int .u32 0, .int .u32 0, .int .u32 0, .int .u32 0, .int .u32 0, .int .u32 0, .int .u32 0, .int .u32 0, .int .u32 0, .int .u32 0, .int .u32 0, .int .u32 0, .int .u32 0, .int .u32 0, .int .u32 0, .int .u32 0, .int .u32 0, .int .u32 0, .int .i64 (-1), .int .u32 0, .bool false] := by rfl
  have hF : Fl W1 w.heap.size (newK 0) := by rw [hW]; exact row_alloc_at _ _ _ _ rfl
  have hC : Chg [] w W1 := by rw [hW]; exact (Chg.refl _ _).alloc _
  rw [h0] at hW
  rw [← hW]
  have HF := Lib.hid hF
  have HC := Lib.hid hC
  clear hW h0 hF hC
  go_loopw [5] (fun i wr => ∃ k : Nat, k ≤ 32 ∧ i = .int .i64 k ∧ Fl wr w.heap.size (newK k) ∧ Chg [] w wr) (fun i _ => 32 - (intOf i).toNat)
  case atStart => exact ⟨0, by omega, rfl, HF.out, HC.out⟩
  case round =>
    obtain ⟨k, hk, rfl, hF, hC⟩ := hrel
    have HFk := Lib.hid hF
    have HCk := Lib.hid hC
    by_cases hk2 : k < 32
    · have d : decide ((k : Int) < 32) = true := by simp; omega
      have hkI : (k : Int) < 32 := by omega
      have ck := hF.ci k hk2
      have fk := hF.fr k
      clear hF hC
      go_wp2
      have e : ({ newK k with f := up (newK k).f k 4294967295 } : FS) = newK (k + 1) := by
        have : up (fun j => if j < k then 4294967295 else 0) k 4294967295 = fun j => if j < k + 1 then 4294967295 else 0 := by
          funext j
          unfold up
          by_cases h : j = k
          · subst h; simp
          · simp only [h, if_false]
            by_cases h2 : j < k
            · rw [if_pos h2, if_pos (by omega)]
            · rw [if_neg h2, if_neg (by omega)]
        unfold newK
        rw [← this]
      have g := HFk.out.set k 4294967295 hk2
      rw [e] at g
      exact ⟨⟨k + 1, by omega, by first | rfl | go_num, g, HCk.out.setCell (Or.inr (Nat.le_refl _)) _⟩, by simp only [intOf]; omega⟩
    · obtain rfl : k = 32 := by omega
      clear hF hC
      go_wp2
      go_ret
      refine ⟨rfl, ?_, HCk.out⟩
      have := HFk.out
      unfold Fl at this ⊢
      rw [this]
      congr 1
end Go.Proofs.L
