/- Proved here: lemmas and contracts (Read) for the laws of this seat, for all values of the stated types; no further condition. -/
import Derived.Test.YtonddkmncfjhoaaBase
open Go Go.RowKit Go.Lib
namespace Go.Proofs.L
theorem turn_nil (w : World) : Calls Try.prog 10 #[.pointer none] w fun e w' => e = .returned (.int .i64 (-1)) ∧ w' = w := by
  go_enter Try.func10, Try.ntmps10
  go_wp2
  go_ret
  exact ⟨rfl, rfl⟩
theorem count_nil (w : World) : Calls Try.prog 12 #[.pointer none] w fun e w' => e = .returned (.int .i64 0) ∧ w' = w := by
  go_enter Try.func12, Try.ntmps12
  go_wp2
  go_ret
  exact ⟨rfl, rfl⟩
theorem pass_nil (w : World) : Calls Try.prog 15 #[.pointer none] w fun e w' => e = .returned (.tuple #[]) ∧ w' = w := by
  go_enter Try.func15, Try.ntmps15
  go_wp2
  refine bodyPost_ret (results_none rfl _ _ _) rfl ?_
  exact ⟨rfl, rfl⟩
theorem end_nil (s c : Int) (w : World) : Calls Try.prog 17 #[.pointer none, .int .i64 s, .int .u32 c] w fun e w' => e = .returned (.tuple #[]) ∧ w' = w := by
  go_enter Try.func17, Try.ntmps17
  go_wp2_with fail
  refine (turn_nil w).mono ?_
  rintro e w' ⟨rfl, rfl⟩
  go_wp2
  go_end0
  exact ⟨rfl, rfl⟩
theorem keep_nil (X : Array Value) (c : Int) (w : World) : Calls Try.prog 16 #[.pointer none, .agg X, .int .u32 c] w fun e w' => e = .returned (.tuple #[]) ∧ Chg [] w w' := by
  go_enter Try.func16, Try.ntmps16
  go_wp2_with fail
  refine (turn_nil _).mono ?_
  rintro e w' ⟨rfl, rfl⟩
  go_wp2
  go_end0
  exact ⟨rfl, (Chg.refl _ _).alloc _⟩
theorem set_nil (l : Value) (t : Int) (w : World) : Calls Try.prog 18 #[.pointer none, l, .int .i64 t] w fun e w' => e = .returned (.int .i64 3) ∧ w' = w := by
  go_enter Try.func18, Try.ntmps18
  go_wp2
  go_ret
  exact ⟨rfl, rfl⟩
theorem noSta_eq : (stL noSta).toArray = #[.int .i64 0, .int .u32 0, .int .u32 0, .int .u32 0, .int .u32 0, .int .u32 0, .int .u32 0, .int .u32 0, .int .u32 0, .int .u32 0, .int .u32 0, .int .u32 0, .int .u32 0, .int .u32 0, .int .u32 0, .int .u32 0, .int .u32 0, .int .u32 0, .int .u32 0, .int .u32 0, .int .u32 0, .int .u32 0, .int .u32 0, .int .u32 0, .int .u32 0, .int .u32 0, .int .u32 0, .int .u32 0, .int .u32 0, .int .u32 0, .int .u32 0, .int .u32 0, .int .u32 0, .int .u32 0, .int .u32 0] := rfl
theorem status_nil (i : Int) (w : World) : Calls Try.prog 13 #[.pointer none, .int .i64 i] w fun e w' => e = .returned (.agg (stL noSta).toArray) ∧ Chg [] w w' := by
  rw [noSta_eq]
  go_enter Try.func13, Try.ntmps13
  go_wp2_with (refine wpList_store_new a40 _ _ rfl rfl rfl rfl rfl rfl rfl rfl ?_)
  refine bodyPost_ret (ret_cell1 rfl a40 rfl (row_alloc_at _ _ _ _ rfl) rfl) rfl ?_
  exact ⟨rfl, (Chg.refl _ _).alloc _⟩
theorem turn_in {w b n f t g o cap} (h : Wd w b n f t g o cap) : Calls Try.prog 10 #[.pointer (some ⟨b, 0, none⟩)] w fun e w' => e = .returned (.int .i64 (if t < 0 then -1 else t)) ∧ w' = w := by
  have c1 := h.c1
  clear h
  by_cases ht : t < 0
  · have d : decide (t < 0) = true := by simpa using ht
    rw [if_pos ht]
    go_enter Try.func10, Try.ntmps10
    go_wp2
    go_ret
    exact ⟨rfl, rfl⟩
  · have d : decide (t < 0) = false := by simpa using ht
    rw [if_neg ht]
    go_enter Try.func10, Try.ntmps10
    go_wp2
    go_ret
    exact ⟨rfl, rfl⟩
theorem count_in {w b n f t g o cap} (h : Wd w b n f t g o cap) : Calls Try.prog 12 #[.pointer (some ⟨b, 0, none⟩)] w fun e w' => e = .returned (.int .i64 n) ∧ w' = w := by
  have c1 := h.c0
  clear h
  go_enter Try.func12, Try.ntmps12
  go_wp2
  go_ret
  exact ⟨rfl, rfl⟩
theorem status_out {w b n f t g o cap} (h : Wd w b n f t g o cap) (i : Int) (hi : ¬ (0 ≤ i ∧ i < n)) : Calls Try.prog 13 #[.pointer (some ⟨b, 0, none⟩), .int .i64 i] w fun e w' => e = .returned (.agg (stL noSta).toArray) ∧ Chg [] w w' := by
  have hlt : b < w.heap.size + 1 := Nat.lt_succ_of_lt h.lt
  have hne : b ≠ w.heap.size := Nat.ne_of_lt h.lt
  have c1 := (h.keep ((Chg.refl [] w).alloc (.cells (stL noSta).toArray 40)) (by simp) (by simp)).c0
  rw [noSta_eq] at c1 ⊢
  clear h
  by_cases h0 : i < 0
  · have d : decide (i < 0) = true := by simpa using h0
    go_enter Try.func13, Try.ntmps13
    go_wp2_with (refine wpList_store_new a40 _ _ rfl rfl rfl rfl rfl rfl rfl rfl ?_)
    refine bodyPost_ret (ret_cell1 rfl a40 rfl (row_alloc_at _ _ _ _ rfl) rfl) rfl ?_
    exact ⟨rfl, (Chg.refl _ _).alloc _⟩
  · have d : decide (i < 0) = false := by simpa using h0
    have d1 : decide (i ≥ (n : Int)) = true := by simp; omega
    have d2 : decide ((n : Int) ≤ i) = true := by simp; omega
    go_enter Try.func13, Try.ntmps13
    go_wp2_with (refine wpList_store_new a40 _ _ rfl rfl rfl rfl rfl rfl rfl rfl ?_)
    refine bodyPost_ret (ret_cell1 rfl a40 rfl (row_alloc_at _ _ _ _ rfl) rfl) rfl ?_
    exact ⟨rfl, (Chg.refl _ _).alloc _⟩
theorem status_in {w b n f t g o cap} (h : Wd w b n f t g o cap) (i : Nat) (hi : i < n) : Calls Try.prog 13 #[.pointer (some ⟨b, 0, none⟩), .int .i64 i] w fun e w' => e = .returned (.agg (stL (f i)).toArray) ∧ Chg [] w w' := by
  have hk := h.keep ((Chg.refl [] w).alloc (.cells (stL noSta).toArray 40)) (by simp) (by simp)
  have c1 := hk.c0
  have HCE := Lib.hid (hk.ce i hi)
  rw [noSta_eq] at c1 HCE
  have hI : (i : Int) < (n : Int) := by omega
  have d : decide ((i : Int) < 0) = false := by simp
  have d1 : decide ((i : Int) ≥ (n : Int)) = false := by simp; omega
  have d2 : decide ((n : Int) ≤ (i : Int)) = false := by simp; omega
  have hsz : (stL (f i)).toArray.size = 35 := by simp [stL_len]
  have hall := stL_allOne (f i)
  have hln := stL_len (f i)
  obtain ⟨L, hL⟩ : ∃ L, L = stL (f i) := ⟨_, rfl⟩
  rw [← hL] at hsz HCE hall hln ⊢
  clear h hk hi hL
  go_enter Try.func13, Try.ntmps13
  go_wp2_with (first | refine wpList_load_part a40 L rfl _ rfl rfl hln HCE.out ?_ | refine wpList_store_new a40 _ _ rfl rfl rfl rfl rfl rfl hsz hall ?_)
  try simp only [Exit.inBlock, Exit.then]
  refine bodyPost_ret (ret_cell1 rfl a40 rfl (row_alloc_at _ _ _ _ rfl) hsz) rfl ?_
  exact ⟨rfl, (Chg.refl _ _).alloc _⟩
end Go.Proofs.L
