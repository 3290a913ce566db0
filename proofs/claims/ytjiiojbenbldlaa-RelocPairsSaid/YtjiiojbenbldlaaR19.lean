/- Proved here: lemmas and contracts (R19) for the laws of this seat, for all values of the stated types; no further condition. -/
import Derived.Test.YtjiiojbenbldlaaR19a
open Go Go.RowKit Go.Lib
namespace Go.Proofs.L
attribute [local irreducible] wpT
def fitF : Nat → Nat := stN (fun _ => 0) 4096 2147487753 4
theorem fit_apply : applyN 2147487744 [⟨0, 1, 1, 1⟩] [0, 8] [⟨2147487744, 16, 0⟩] [⟨0, 1, 1, 1⟩] (fun _ => 0) = (0, fitF) := by
  have h1 : oneN 2147487744 [⟨0, 1, 1, 1⟩] [0, 8] [⟨2147487744, 16, 0⟩] (fun _ => 0) ⟨0, 1, 1, 1⟩ = (0, fitF) := rfl
  unfold applyN
  rw [h1]
  rfl
theorem fit_load : ldN fitF 2147487744 = (2147487753, 0) := by decide +kernel
set_option maxRecDepth 100000 in
set_option maxHeartbeats 16000000 in
theorem fit_any (w : World) : Calls Try.prog 8 #[] w fun e w' => e = .returned (.bool true) ∧ Chg [] w w' := by
  go_enter Try.func8, Try.ntmps8
  go_wp2_with fail
  refine (new_ok w).mono ?_
  rintro e w1 ⟨rfl, hw1⟩
  have HR : Hid (w1.row? w.heap.size = some (mem fun _ => 0)) := Lib.hid (by rw [hw1]; exact new_row w)
  have HC : Hid (Chg [] w w1) := Lib.hid (by rw [hw1]; exact (Chg.refl _ _).alloc _)
  obtain ⟨mb, hmb⟩ : ∃ b, b = w.heap.size := ⟨_, rfl⟩
  rw [← hmb] at HR ⊢
  have HMB := Lib.hid hmb
  clear hw1 hmb
  obtain ⟨Y0, hY0⟩ : ∃ b, b = w1.heap.size := ⟨_, rfl⟩
  obtain ⟨V, hV⟩ : ∃ V, V = (((w1.alloc (.cells #[.int .u32 0, .int .u32 8] 24)).alloc (.cells #[.int .u32 0, .int .i64 1, .int .i64 1, .int .u32 1] 32)).alloc (.cells #[.int .u32 0, .slice none 0 0, .slice (some ⟨Y0 + 1, 0, none⟩) 1 1, .slice (some ⟨Y0, 0, none⟩) 2 2] 30)).alloc (.cells #[.int .u32 2147487744, .int .u32 16, .int .i64 0] 52) := ⟨_, rfl⟩
  have hml := row_lt HR.out
  have hc : Chg [] w1 V := by rw [hV]; exact ((((Chg.refl _ _).alloc _).alloc _).alloc _).alloc _
  have hrY : V.row? Y0 = some #[.int .u32 0, .int .u32 8] := by rw [hV, hY0, row_alloc_past _ _ _ (by simp; omega), row_alloc_past _ _ _ (by simp; omega), row_alloc_past _ _ _ (by simp)]; exact row_alloc_at _ _ _ _ rfl
  have hrR : V.row? (Y0 + 1) = some #[.int .u32 0, .int .i64 1, .int .i64 1, .int .u32 1] := by rw [hV, hY0, row_alloc_past _ _ _ (by simp), row_alloc_past _ _ _ (by simp)]; exact row_alloc_at _ _ _ _ (by simp)
  have hrS : V.row? (Y0 + 1 + 1 + 1) = some #[.int .u32 2147487744, .int .u32 16, .int .i64 0] := by rw [hV, hY0]; exact row_alloc_at _ _ _ _ (by simp)
  have hrM : V.row? mb = some (mem fun _ => 0) := by rw [hc.row hml (by simp)]; exact HR.out
  have HCV := Lib.hid (HC.out.trans hc)
  have HAP : Hid (Calls Try.prog 11 #[.pointer (some ⟨mb, 0, none⟩), .agg #[.int .u32 0, .slice none 0 0, .slice (some ⟨Y0 + 1, 0, none⟩) 1 1, .slice (some ⟨Y0, 0, none⟩) 2 2], .int .u32 2147487744, .slice (some ⟨Y0 + 1 + 1 + 1, 0, none⟩) 1 1] V (OneQ V mb (0, fitF))) := Lib.hid (by
    rw [← fit_apply]
    exact apply_rows (bias := 2147487744) (Rs := [⟨0, 1, 1, 1⟩]) (Ys := [0, 8]) (Ss := [⟨2147487744, 16, 0⟩]) hrR rfl (by decide) (nat_row hrY (by decide)) rfl (fun _ => rfl) hrS rfl (by decide) (by decide) hrM (by intro i; decide) (by omega) (by omega) (by omega) (by decide) (by decide))
  have HV := Lib.hid hV
  have HY0 := Lib.hid hY0
  clear hV hY0 hml hc hrY hrR hrS hrM
  go_wp2_with fail
  rw [← HY0.out, ← HV.out]
  refine HAP.out.mono ?_
  rintro e w2 ⟨rfl, hr2, hc2⟩
  have HR2 := Lib.hid hr2
  have HC2 := Lib.hid hc2
  clear hr2 hc2
  go_wp2_with fail
  have HL : Hid (Calls Try.prog 13 #[.pointer (some ⟨mb, 0, none⟩), .int .u32 2147487744, .int .i64 4] w2 fun e w' => e = .returned (.tuple #[.int .u32 2147487753, .int .i64 0]) ∧ Chg [] w2 w') := Lib.hid (by
    have h := load4_any fitF (stN_lt _ (by intro i; decide) _ _ _) 2147487744 mb (by decide) w2 HR2.out
    rw [fit_load] at h
    exact h)
  refine HL.out.mono ?_
  rintro e w3 ⟨rfl, hc3⟩
  have HC3 : Hid (Chg [mb] V w3) := Lib.hid (HC2.out.trans (chg_any hc3))
  clear hc3
  go_wp2_with fail
  have HU : Hid (Calls Try.prog 18 #[.int .u32 305422335] w3 fun e w' => e = .returned (.int .u32 305422336) ∧ w' = w3) := Lib.hid (upper_any 305422335 w3)
  refine HU.out.mono ?_
  rintro e w4 ⟨rfl, hw⟩
  obtain rfl := hw.symm
  go_wp2
  go_ret
  refine ⟨rfl, ?_⟩
  have h1 := HCV.out
  have h2 := HC3.out
  exact ⟨h2.os.trans h1.os, h2.tape.trans h1.tape, h2.output.trans h1.output, Nat.le_trans h1.size h2.size, fun k hk _ => (h2.block k (Nat.lt_of_lt_of_le hk h1.size) (by rw [List.mem_singleton]; have := HMB.out; omega)).trans (h1.block k hk (by simp))⟩
end Go.Proofs.L
