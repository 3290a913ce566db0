/- Proved here: lemmas and contracts (R23) for the laws of this seat, for all values of the stated types; no further condition. -/
import Derived.Test.YtjiiojbenbldlaaR22
open Go Go.RowKit Go.Lib
namespace Go.Proofs.L
attribute [local irreducible] wpT
theorem s32_wrap (v : Nat) (hv : v < 4294967296) : IntKind.i32.wrap (v : Int) = s32 v ∧ wrap32 (v : Int) = s32 v := by
  constructor
  · unfold s32
    simp [IntKind.wrap, IntKind.bits, IntKind.signed]
    split <;> split <;> omega
  · unfold s32 wrap32
    split <;> omega
theorem up_rest (v : Nat) (hv : v < 4294967296) : -2048 ≤ s32 (subw v (upN v)) ∧ s32 (subw v (upN v)) < 2048 := by
  unfold s32 subw upN
  split <;> omega
set_option maxRecDepth 100000 in
set_option maxHeartbeats 16000000 in
theorem upper_walk (w : World) (v : Nat) (hv : v < 4294967296) : Calls Try.prog 6 #[.int .u32 (v : Int)] w fun e w' => e = .returned (.bool true) ∧ Chg [] w w' := by
  obtain ⟨u, hu⟩ : ∃ u, u = upN v := ⟨_, rfl⟩
  have hul : u < 4294967296 := by rw [hu]; exact upN_lt v
  obtain ⟨d, hd⟩ : ∃ d, d = subw v u := ⟨_, rfl⟩
  have hdl : d < 4294967296 := by rw [hd]; exact subw_lt _ _
  have ed := Lib.hid (subw_wrap hv hul hd)
  obtain ⟨x, hx⟩ : ∃ x, x = s32 d := ⟨_, rfl⟩
  have e1 := (s32_wrap d hdl).1
  have e2 := (s32_wrap d hdl).2
  rw [← hx] at e1 e2
  have hr := up_rest v hv
  rw [← hu, ← hd, ← hx] at hr
  have x1 := Lib.hid hr.1
  have x2 := Lib.hid hr.2
  have m1 : Hid ((u : Int) % 4096 = 0) := Lib.hid (by rw [hu]; unfold upN; omega)
  have m2 : Hid ((u : Int).tmod 4096 = 0) := Lib.hid (by rw [Int.tmod_eq_emod_of_nonneg (by omega)]; exact m1.out)
  have HU := Lib.hid hu
  have HV := Lib.hid hv
  have WV : Hid (wrap64 (v : Int) = (v : Int)) := Lib.hid (IntWalk.wrap64_in _ ⟨by omega, by omega⟩)
  have WU : Hid (wrap64 (u : Int) = (u : Int)) := Lib.hid (IntWalk.wrap64_in _ ⟨by omega, by omega⟩)
  have HUL := Lib.hid hul
  have X1 : Hid (-2048 ≤ wrap32 (d : Int)) := Lib.hid (by rw [e2]; exact x1.out)
  have X2 : Hid (wrap32 (d : Int) < 2048) := Lib.hid (by rw [e2]; exact x2.out)
  have X3 : Hid (-2048 ≤ IntKind.i32.wrap (d : Int)) := Lib.hid (by rw [e1]; exact x1.out)
  have X4 : Hid (IntKind.i32.wrap (d : Int) < 2048) := Lib.hid (by rw [e1]; exact x2.out)
  clear hu hul hd hdl hx hr hv e1 e2
  go_enter Try.func6, Try.ntmps6
  go_wp2_with fail
  refine (fit_any w).mono ?_
  rintro e w1 ⟨rfl, hc1⟩
  have HC1 := Lib.hid hc1
  clear hc1
  go_wp2_with fail
  refine (upper_any v w1).mono ?_
  rintro e w' ⟨rfl, hw⟩
  obtain rfl := hw.symm
  rw [← HU.out]
  have ed' := ed.out
  go_upto_region 5 with (fail)
  clear ed'
  have m1' := m1.out
  have m2' := m2.out
  have x1' := X1.out
  have x2' := X2.out
  have x3' := X3.out
  have x4' := X4.out
  have wv := WV.out
  have wu := WU.out
  go_wp2_with fail
  refine (refUpper_any v HV.out w1).mono ?_
  rintro e w' ⟨rfl, hw⟩
  obtain rfl := hw.symm
  rw [← HU.out]
  go_wp2_with fail
  refine (apply_nil (.slice none 0 0) v _ _ _ _ _ w1).mono ?_
  rintro e w2 ⟨rfl, hc2⟩
  go_wp2
  go_ret
  exact ⟨rfl, HC1.out.trans hc2⟩
end Go.Proofs.L

open Go Go.RowKit Go.Lib
namespace Go.Proofs.L
/-! what Apply makes of one branch, of one jump (RelocFar) -/
def zN : Nat → Nat := fun _ => 0
def atB : Nat := 2147487744
theorem zN_ld : (ldN zN 2147487744).1 = 0 := by decide +kernel
theorem zN_ld2 : (ldN zN 2147487744).2 = 0 := by decide +kernel
theorem sym0 (b : Nat) : symN [] b 0 = 0 := rfl
theorem fin_at (x : Nat) : finN zN 2147487744 x = (0, stN zN 4096 x 4) := by
  unfold finN sdN
  rw [if_pos (by decide)]
  rfl
theorem far_one (ty : Int) (add : Nat) (hs : sizeN ty = 4) (h1 : ty ≠ 3) : oneN 2147487744 [⟨0, ty, 0, add⟩] [] [⟨2147487744, 4, 0⟩] zN ⟨0, ty, 0, add⟩ = tailN 2147487744 [⟨0, ty, 0, add⟩] [] zN 2147487744 ty ((0 + add) % 4294967296) 0 add := by
  unfold oneN
  rw [if_neg (by
    show ¬ (sizeN ty = 0 ∨ withinN [⟨2147487744, 4, 0⟩] 2147487744 (sizeN ty) = false)
    rw [hs]
    decide), if_neg (by
    show ¬ ((ty ≠ 1 ∧ ty ≠ 3 ∧ (2147487744 + 0) % 4294967296 % 4 ≠ 0) ∨ (ty = 3 ∧ (0 : Int) ≠ 0))
    omega), if_neg (by show ¬ (ldN zN 2147487744).2 ≠ 0; rw [zN_ld2]; decide)]
  show tailN 2147487744 _ [] zN 2147487744 ty ((symN [] 2147487744 0 + add) % 4294967296) (ldN zN 2147487744).1 add = _
  rw [zN_ld, sym0]
theorem far_apply16 (u add : Nat) (hu : u < 4294967296) (ha : add = (u + 2147487744) % 4294967296) :
    applyN 2147487744 [⟨0, 16, 0, add⟩] [] [⟨2147487744, 4, 0⟩] [⟨0, 16, 0, add⟩] zN = if farN u 13 then (14, zN) else (0, stN zN 4096 (setB 0 u) 4) := by
  have h1 := far_one 16 add (by decide) (by decide)
  have h2 : (0 + add) % 4294967296 = add := by omega
  have h3 : subw add 2147487744 = u := by unfold subw; omega
  have h4 : tailN 2147487744 [⟨0, 16, 0, add⟩] [] zN 2147487744 16 add 0 add = if farN u 13 then (14, zN) else (0, stN zN 4096 (setB 0 u) 4) := by
    unfold tailN
    rw [if_neg (show ¬ ((16 : Int) = 3) by decide), if_neg (show ¬ ((16 : Int) = 1) by decide), if_pos rfl, h3, fin_at]
  unfold applyN
  rw [h1, h2, h4]
  cases farN u 13 <;> rfl
theorem far_apply17 (u add : Nat) (hu : u < 4294967296) (ha : add = (u + 2147487744) % 4294967296) :
    applyN 2147487744 [⟨0, 17, 0, add⟩] [] [⟨2147487744, 4, 0⟩] [⟨0, 17, 0, add⟩] zN = if farN u 21 then (14, zN) else (0, stN zN 4096 (setJ 0 u) 4) := by
  have h1 := far_one 17 add (by decide) (by decide)
  have h2 : (0 + add) % 4294967296 = add := by omega
  have h3 : subw add 2147487744 = u := by unfold subw; omega
  have h4 : tailN 2147487744 [⟨0, 17, 0, add⟩] [] zN 2147487744 17 add 0 add = if farN u 21 then (14, zN) else (0, stN zN 4096 (setJ 0 u) 4) := by
    unfold tailN
    rw [if_neg (show ¬ ((17 : Int) = 3) by decide), if_neg (show ¬ ((17 : Int) = 1) by decide), if_neg (show ¬ ((17 : Int) = 16) by decide), if_pos rfl, h3, fin_at]
  unfold applyN
  rw [h1, h2, h4]
  cases farN u 21 <;> rfl
theorem ld_at (x : Nat) (hx : x < 4294967296) : ldN (stN zN 4096 x 4) 2147487744 = (x, 0) := by
  unfold ldN
  rw [if_pos (by decide)]
  exact congrArg (·, 0) (leN_same zN 4096 x hx)
theorem zN_lt : ∀ i, zN i < 256 := fun _ => Nat.lt_of_lt_of_le (show (0:Nat) < 1 by decide) (by decide)
/-- a way of 32 bits -/
theorem way_u (x : Int) (h1 : -2147483648 ≤ x) (h2 : x ≤ 2147483647) : ∃ u : Nat, u < 4294967296 ∧ x % 4294967296 = (u : Int) ∧ s32 u = x ∧ (u % 2 = 0 ↔ x.tmod 2 = 0) := by
  refine ⟨(x % 4294967296).toNat, by omega, by omega, ?_, ?_⟩
  · unfold s32; split <;> omega
  · have := Int.tmod_def x 2
    have h3 := Int.lt_tmod_of_pos x (show (0:Int) < 2 by decide)
    have h4 := Int.tmod_lt_of_pos x (show (0:Int) < 2 by decide)
    constructor
    · intro h; omega
    · intro h; omega
end Go.Proofs.L
