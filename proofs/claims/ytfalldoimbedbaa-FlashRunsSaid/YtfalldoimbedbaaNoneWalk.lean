/- Proved here: lemmas and contracts (NoneWalk) for the laws of this seat, for all values of the stated types; no further condition. -/
import Derived.Test.YtfalldoimbedbaaRaise
open Go Go.RowKit Go.Lib
namespace Go.Proofs.L
theorem fit_ok (w : World) : Calls Try.prog 8 #[] w fun e w' => e = .returned (.bool true) ∧ Below w.heap.size w w' := by
  go_enter Try.func8, Try.ntmps8
  go_wp2_with fail
  refine (new_any w).mono ?_
  rintro e w1 ⟨rfl, hF1, hC1⟩
  have hR1 : Hid (Calls Try.prog 14 #[.pointer (some ⟨w.heap.size, 0, none⟩), .int .u32 5] w1 fun e w' => e = .returned (.int .i64 0) ∧ Fl w' w.heap.size (raiseT newS 5) ∧ Chg [w.heap.size] w1 w') := by
    have h := raise_in hF1 newS_ok 5 (by decide)
    rw [show raiseE newS 5 = 0 by decide +kernel] at h
    exact Lib.hid h
  have HC1 := Lib.hid hC1
  clear hF1 hC1
  have hO2 : (raiseT newS 5).Ok := raiseT_ok newS_ok 5
  obtain ⟨S2, hS2⟩ : ∃ S2, S2 = raiseT newS 5 := ⟨_, rfl⟩
  have x1 : raiseE S2 3 = 0 := by rw [hS2]; decide +kernel
  have x2 : raiseT S2 3 = S2 := by
    have : (3 : Nat) ≤ counter S2.f := by rw [hS2]; decide +kernel
    unfold raiseT; rw [if_pos this]
  have x3 : counter S2.f = 5 := by rw [hS2]; decide +kernel
  have y0 : S2.f 0 = 5 := by rw [hS2]; decide +kernel
  have y1 : S2.f 1 = 4294967290 := by rw [hS2]; decide +kernel
  have y2 : S2.f 2 = 0 := by rw [hS2]; decide +kernel
  have y3 : S2.f 3 = 4294967295 := by rw [hS2]; decide +kernel
  rw [← hS2] at hR1 hO2
  have HX : Hid (raiseE S2 3 = 0 ∧ raiseT S2 3 = S2 ∧ counter S2.f = 5 ∧ S2.f 0 = 5 ∧ S2.f 1 = 4294967290 ∧ S2.f 2 = 0 ∧ S2.f 3 = 4294967295) := Lib.hid ⟨x1, x2, x3, y0, y1, y2, y3⟩
  have HO2 := Lib.hid hO2
  clear hS2 x1 x2 x3 y0 y1 y2 y3 hO2
  go_wp2_with fail
  refine hR1.out.mono ?_
  rintro e w2 ⟨rfl, hF2, hC2⟩
  have hR2 : Hid (Calls Try.prog 14 #[.pointer (some ⟨w.heap.size, 0, none⟩), .int .u32 3] w2 fun e w' => e = .returned (.int .i64 0) ∧ Fl w' w.heap.size S2 ∧ Chg [w.heap.size] w2 w') := by
    have h := raise_in hF2 HO2.out 3 (by decide)
    rw [HX.out.1, HX.out.2.1] at h
    exact Lib.hid h
  have HC2 : Hid (Chg [w.heap.size] w w2) := Lib.hid ((HC1.out.mono (by simp)).trans hC2)
  clear hF2 hC2 hR1
  go_wp2_with fail
  refine hR2.out.mono ?_
  rintro e w3 ⟨rfl, hF3, hC3⟩
  have HC3 : Hid (Chg [w.heap.size] w w3) := Lib.hid (HC2.out.trans hC3)
  have HF3 := Lib.hid hF3
  have HK : Hid (Calls Try.prog 15 #[.pointer (some ⟨w.heap.size, 0, none⟩)] w3 fun e w' => e = .returned (.int .u32 5) ∧ Chg [] w3 w') := by
    have h := counter_in hF3 HO2.out
    rw [HX.out.2.2.1] at h
    exact Lib.hid h
  clear hF3 hC3 hR2
  go_wp2_with fail
  refine HK.out.mono ?_
  rintro e w4 ⟨rfl, hC4⟩
  have HF4 := Lib.hid (HF3.out.keep hC4 (by simp))
  have HC4 : Hid (Chg [w.heap.size] w w4) := Lib.hid (HC3.out.trans (hC4.mono (by simp)))
  have HR : ∀ k : Nat, k < 32 → Hid (Calls Try.prog 11 #[.pointer (some ⟨w.heap.size, 0, none⟩), .int .i64 k] w4 fun e w' => e = .returned (.int .u32 (S2.f k)) ∧ w' = w4) := fun k hk => Lib.hid (read_in HF4.out k hk)
  have r0 : Hid (Calls Try.prog 11 #[.pointer (some ⟨w.heap.size, 0, none⟩), .int .i64 0] w4 fun e w' => e = .returned (.int .u32 5) ∧ w' = w4) := by
    have h := (HR 0 (by decide)).out; rw [HX.out.2.2.2.1] at h; exact Lib.hid h
  have r1 : Hid (Calls Try.prog 11 #[.pointer (some ⟨w.heap.size, 0, none⟩), .int .i64 1] w4 fun e w' => e = .returned (.int .u32 4294967290) ∧ w' = w4) := by
    have h := (HR 1 (by decide)).out; rw [HX.out.2.2.2.2.1] at h; exact Lib.hid h
  have r2 : Hid (Calls Try.prog 11 #[.pointer (some ⟨w.heap.size, 0, none⟩), .int .i64 2] w4 fun e w' => e = .returned (.int .u32 0) ∧ w' = w4) := by
    have h := (HR 2 (by decide)).out; rw [HX.out.2.2.2.2.2.1] at h; exact Lib.hid h
  have r3 : Hid (Calls Try.prog 11 #[.pointer (some ⟨w.heap.size, 0, none⟩), .int .i64 3] w4 fun e w' => e = .returned (.int .u32 4294967295) ∧ w' = w4) := by
    have h := (HR 3 (by decide)).out; rw [HX.out.2.2.2.2.2.2] at h; exact Lib.hid h
  clear hC4 HR HK
  go_wp2_with fail
  refine r0.out.mono ?_
  rintro e w5 ⟨rfl, rfl⟩
  go_wp2_with fail
  refine r1.out.mono ?_
  rintro e w6 ⟨rfl, rfl⟩
  go_wp2_with fail
  refine r2.out.mono ?_
  rintro e w7 ⟨rfl, rfl⟩
  go_wp2_with fail
  refine r3.out.mono ?_
  rintro e w8 ⟨rfl, rfl⟩
  go_wp2
  go_ret
  exact ⟨rfl, HC4.out.below (by simp) (Nat.le_refl _)⟩
theorem none_walk (i : Int) (x : Nat) (hx : x < 4294967296) (w : World) : Calls Try.prog 7 #[.int .i64 i, .int .u32 (x : Int)] w fun e w' => e = .returned (.bool true) ∧ Below w.heap.size w w' := by
  have HX := Lib.hid hx
  clear hx
  go_enter Try.func7, Try.ntmps7
  go_wp2_with fail
  refine (fit_ok w).mono ?_
  rintro e w0 ⟨rfl, hB0⟩
  have HB0 := Lib.hid hB0
  clear hB0
  go_wp2_with fail
  refine (fuel_nil i x _).mono ?_
  rintro e w1 ⟨rfl, rfl⟩
  go_wp2_with fail
  refine (read_out _ i (.inl rfl) _).mono ?_
  rintro e w2 ⟨rfl, rfl⟩
  go_wp2_with fail
  refine (write_out _ i x (.inl rfl) _).mono ?_
  rintro e w3 ⟨rfl, rfl⟩
  go_wp2_with fail
  refine (erase_out _ i (.inl rfl) _).mono ?_
  rintro e w3 ⟨rfl, rfl⟩
  go_wp2_with fail
  refine (dead_nil _).mono ?_
  rintro e w3 ⟨rfl, rfl⟩
  go_wp2_with fail
  refine (again_nil _).mono ?_
  rintro e w3 ⟨rfl, rfl⟩
  go_wp2_with fail
  refine (counter_nil _).mono ?_
  rintro e w3 ⟨rfl, rfl⟩
  go_wp2_with fail
  refine (raise_nil x _).mono ?_
  rintro e w3 ⟨rfl, rfl⟩
  go_wp2_with fail
  refine (new_any _).mono ?_
  rintro e w4 ⟨rfl, hF4, hC4⟩
  have HF4 := Lib.hid hF4
  have HC4 := Lib.hid hC4
  clear hF4 hC4
  have hst : newS.okB = true := by decide
  by_cases h0 : 0 ≤ i
  · by_cases h32 : i < 32
    · obtain ⟨k, rfl⟩ := Int.eq_ofNat_of_zero_le h0
      have hk : k < 32 := by omega
      have d0 : decide ((k : Int) ≥ 0) = true := by simp
      have d1 : decide ((k : Int) < 32) = true := by simpa using h32
      have HWr : Hid (Calls Try.prog 10 #[.pointer (some ⟨w3.heap.size, 0, none⟩), .int .i64 (k : Int), .int .u32 (x : Int)] w4 fun e w' => e = .returned (.int .i64 0) ∧ Fl w' w3.heap.size (newS.write k x) ∧ Chg [w3.heap.size] w4 w') := by
        have h := write_in HF4.out newS_ok k x hk HX.out
        rw [show errW newS = 0 by decide] at h
        exact Lib.hid h
      go_wp2_with fail
      refine HWr.out.mono ?_
      rintro e w5 ⟨rfl, hF5, hC5⟩
      have HF5 := Lib.hid hF5
      have HC5 : Hid (Chg [w3.heap.size] w3 w5) := Lib.hid ((HC4.out.mono (by simp)).trans hC5)
      clear hF5 hC5
      have ho5 : errW (newS.write k x) = 0 := by
        have h1 : (newS.write k x).de = false := by unfold FS.write; rw [hst]; rfl
        have h2 : (newS.write k x).fu = -1 := by unfold FS.write; rw [hst]; rfl
        unfold errW FS.okB; rw [h1, h2]; rfl
      by_cases hk2 : k < 2
      · have HE : Hid (Calls Try.prog 12 #[.pointer (some ⟨w3.heap.size, 0, none⟩), .int .i64 (k : Int)] w5 fun e w' => e = .returned (.int .i64 0) ∧ Fl w' w3.heap.size ((newS.write k x).erase k) ∧ Chg [w3.heap.size] w5 w') := by
          have h := erase_in HF5.out (newS_ok.write k x) k hk2
          rw [ho5] at h
          exact Lib.hid h
        have hk' : k = 0 ∨ k = 1 := by omega
        clear ho5 hst
        rcases hk' with rfl | rfl
        · go_wp2_with fail
          refine HE.out.mono ?_
          rintro e w6 ⟨rfl, hF6, hC6⟩
          go_wp2
          go_ret
          exact ⟨rfl, HB0.out.trans ((HC5.out.trans hC6).below (by simp; exact HB0.out.size) HB0.out.size)⟩
        · go_wp2_with fail
          refine HE.out.mono ?_
          rintro e w6 ⟨rfl, hF6, hC6⟩
          go_wp2
          go_ret
          exact ⟨rfl, HB0.out.trans ((HC5.out.trans hC6).below (by simp; exact HB0.out.size) HB0.out.size)⟩
      · have HE := Lib.hid (erase_out (.pointer (some ⟨w3.heap.size, 0, none⟩)) (k : Int) (.inr ⟨⟨_, rfl⟩, by omega⟩) w5)
        have e0 : ((k : Int) == 0) = false := by simp; omega
        have e1 : ((k : Int) == 1) = false := by simp; omega
        have e2 : ((k : Int) = 0) = False := by simp; omega
        have e3 : ((k : Int) = 1) = False := by simp; omega
        clear ho5 hst hk2
        go_wp2_with fail
        refine HE.out.mono ?_
        rintro e w6 ⟨rfl, rfl⟩
        go_wp2
        go_ret
        exact ⟨rfl, HB0.out.trans (HC5.out.below (by simp; exact HB0.out.size) HB0.out.size)⟩
    · have HWr := Lib.hid (write_out (.pointer (some ⟨w3.heap.size, 0, none⟩)) i x (.inr ⟨⟨_, rfl⟩, by omega⟩) w4)
      have HE := Lib.hid (erase_out (.pointer (some ⟨w3.heap.size, 0, none⟩)) i (.inr ⟨⟨_, rfl⟩, by omega⟩) w4)
      have d0 : decide (i ≥ 0) = true := by simpa using h0
      have d1 : decide (i < 32) = false := by simpa using h32
      have e0 : (i == 0) = false := by simp; omega
      have e1 : (i == 1) = false := by simp; omega
      have e2 : (i = 0) = False := by simp; omega
      have e3 : (i = 1) = False := by simp; omega
      go_wp2_with fail
      refine HWr.out.mono ?_
      rintro e w5 ⟨rfl, rfl⟩
      go_wp2_with fail
      refine HE.out.mono ?_
      rintro e w6 ⟨rfl, rfl⟩
      go_wp2
      go_ret
      exact ⟨rfl, HB0.out.trans (HC4.out.below (by simp) HB0.out.size)⟩
  · have HWr := Lib.hid (write_out (.pointer (some ⟨w3.heap.size, 0, none⟩)) i x (.inr ⟨⟨_, rfl⟩, by omega⟩) w4)
    have HE := Lib.hid (erase_out (.pointer (some ⟨w3.heap.size, 0, none⟩)) i (.inr ⟨⟨_, rfl⟩, by omega⟩) w4)
    have d0 : decide (i ≥ 0) = false := by simpa using h0
    have e0 : (i == 0) = false := by simp; omega
    have e1 : (i == 1) = false := by simp; omega
    have e2 : (i = 0) = False := by simp; omega
    have e3 : (i = 1) = False := by simp; omega
    go_wp2_with fail
    refine HWr.out.mono ?_
    rintro e w5 ⟨rfl, rfl⟩
    go_wp2_with fail
    refine HE.out.mono ?_
    rintro e w6 ⟨rfl, rfl⟩
    go_wp2
    go_ret
    exact ⟨rfl, HB0.out.trans (HC4.out.below (by simp) HB0.out.size)⟩
end Go.Proofs.L
