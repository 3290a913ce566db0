/- Proved here: lemmas and contracts (R20) for the laws of this seat, for all values of the stated types; no further condition. -/
import Derived.Test.YtjiiojbenbldlaaR19
open Go Go.RowKit Go.Lib
namespace Go.Proofs.L
attribute [local irreducible] wpT
theorem s32_wrap (v : Nat) (hv : v < 4294967296) : IntKind.i32.wrap (v : Int) = s32 v ∧ wrap32 (v : Int) = s32 v := by
  constructor
  · unfold s32
    simp [IntKind.wrap, IntKind.bits, IntKind.signed]
    split <;> split <;> omega
  · unfold s32 wrap32
    split <;> omega
theorem up_rest (v : Nat) (hv : v < 4294967296) : -2048 ≤ s32 (subw v (upN v)) ∧ s32 (subw v (upN v)) < 2048 := by
  unfold s32 subw upN
  split <;> omega
set_option maxRecDepth 100000 in
set_option maxHeartbeats 16000000 in
theorem upper_walk (w : World) (v : Nat) (hv : v < 4294967296) : Calls Try.prog 6 #[.int .u32 (v : Int)] w fun e w' => e = .returned (.bool true) ∧ Chg [] w w' := by
  obtain ⟨u, hu⟩ : ∃ u, u = upN v := ⟨_, rfl⟩
  have hul : u < 4294967296 := by rw [hu]; exact upN_lt v
  obtain ⟨d, hd⟩ : ∃ d, d = subw v u := ⟨_, rfl⟩
  have hdl : d < 4294967296 := by rw [hd]; exact subw_lt _ _
  have ed := Lib.hid (subw_wrap hv hul hd)
  obtain ⟨x, hx⟩ : ∃ x, x = s32 d := ⟨_, rfl⟩
  have e1 := (s32_wrap d hdl).1
  have e2 := (s32_wrap d hdl).2
  rw [← hx] at e1 e2
  have hr := up_rest v hv
  rw [← hu, ← hd, ← hx] at hr
  have x1 := Lib.hid hr.1
  have x2 := Lib.hid hr.2
  have m1 : Hid ((u : Int) % 4096 = 0) := Lib.hid (by rw [hu]; unfold upN; omega)
  have m2 : Hid ((u : Int).tmod 4096 = 0) := Lib.hid (by rw [Int.tmod_eq_emod_of_nonneg (by omega)]; exact m1.out)
  have HU := Lib.hid hu
  have HV := Lib.hid hv
  have WV : Hid (wrap64 (v : Int) = (v : Int)) := Lib.hid (IntWalk.wrap64_in _ ⟨by omega, by omega⟩)
  have WU : Hid (wrap64 (u : Int) = (u : Int)) := Lib.hid (IntWalk.wrap64_in _ ⟨by omega, by omega⟩)
  have HUL := Lib.hid hul
  have X1 : Hid (-2048 ≤ wrap32 (d : Int)) := Lib.hid (by rw [e2]; exact x1.out)
  have X2 : Hid (wrap32 (d : Int) < 2048) := Lib.hid (by rw [e2]; exact x2.out)
  have X3 : Hid (-2048 ≤ IntKind.i32.wrap (d : Int)) := Lib.hid (by rw [e1]; exact x1.out)
  have X4 : Hid (IntKind.i32.wrap (d : Int) < 2048) := Lib.hid (by rw [e1]; exact x2.out)
  clear hu hul hd hdl hx hr hv e1 e2
  go_enter Try.func6, Try.ntmps6
  go_wp2_with fail
  refine (fit_any w).mono ?_
  rintro e w1 ⟨rfl, hc1⟩
  have HC1 := Lib.hid hc1
  clear hc1
  go_wp2_with fail
  refine (upper_any v w1).mono ?_
  rintro e w' ⟨rfl, hw⟩
  obtain rfl := hw.symm
  rw [← HU.out]
  have ed' := ed.out
  go_upto_region 5 with (fail)
  clear ed'
  have m1' := m1.out
  have m2' := m2.out
  have x1' := X1.out
  have x2' := X2.out
  have x3' := X3.out
  have x4' := X4.out
  have wv := WV.out
  have wu := WU.out
  go_wp2_with fail
  refine (refUpper_any v HV.out w1).mono ?_
  rintro e w' ⟨rfl, hw⟩
  obtain rfl := hw.symm
  rw [← HU.out]
  go_wp2_with fail
  refine (apply_nil (.slice none 0 0) v _ _ _ _ _ w1).mono ?_
  rintro e w2 ⟨rfl, hc2⟩
  go_wp2
  go_ret
  exact ⟨rfl, HC1.out.trans hc2⟩
end Go.Proofs.L
