/- Proved here: lemmas and contracts (Parts) for the laws of this seat, for all values of the stated types; no further condition. -/
import Derived.Test.YtenmnaibmmpfmaaPartNums
open Go Go.RowKit Go.Lib
namespace Go.Proofs.L
set_option maxHeartbeats 3200000 in
theorem parts_zero (a b : Nat) (ha : a < 4294967296) (hb : b < 4294967296) (hb0 : b = 0) (w : World) : Calls Try.prog 5 #[.int .u32 a, .int .u32 b] w fun e w' => e = .returned (.bool true) ∧ Below w.heap.size w w' := by
  obtain ⟨lo, hi, mh, x, y, P, z, T, l1, l2, l3, v1, v2, v3, hx, hy, k1, k2, k3, k4, k5, k6, k7⟩ := parts_pre a b ha hb
  have H1 := Lib.hid (fun w => r17 38 a b ha hb (by decide) (by decide) w)
  have H2 := Lib.hid (fun w => r17 41 a b ha hb (by decide) (by decide) w)
  have H3 := Lib.hid (fun w => r17 39 a b ha hb (by decide) (by decide) w)
  rw [v1] at H1
  rw [v2] at H2
  rw [v3] at H3
  have g1 := u64i hi (by omega)
  have g2 := u64i lo (by omega)
  have g3 := u64i a (by omega)
  have g4 := u64i b (by omega)
  have g5 := u64s hi l2
  have x1 := sg_bd a ha
  have y1 := sg_bd b hb
  have e1 := sg_wrap a ha
  have e2 := sg_wrap b hb
  have e1' := sg_wrapK a ha
  have e2' := sg_wrapK b hb
  rw [← hx] at x1 e1 e1'
  rw [← hy] at y1 e2 e2'
  obtain ⟨x1, x2⟩ := x1
  obtain ⟨y1, y2⟩ := y1
  have HX := Lib.hid hx
  have HY := Lib.hid hy
  clear v1 v2 v3 hx hy
  have Q1 := Lib.hid (fun w => r17 43 a b ha hb (by decide) (by decide) w)
  have Q2 := Lib.hid (fun w => r17 45 a b ha hb (by decide) (by decide) w)
  have Q3 := Lib.hid (fun w => r17 42 a b ha hb (by decide) (by decide) w)
  have Q4 := Lib.hid (fun w => r17 44 a b ha hb (by decide) (by decide) w)
  rw [show vI 43 a b = (if b = 0 then (4294967295 : Int) else (a : Int) / b) from rfl, if_pos hb0] at Q1
  rw [show vI 45 a b = (if b = 0 then (a : Int) else (a : Int) % b) from rfl, if_pos hb0] at Q2
  rw [show vI 42 a b = (if b = 0 then (4294967295 : Int) else ((sg a).tdiv (sg b)) % 4294967296) from rfl, if_pos hb0] at Q3
  rw [show vI 44 a b = (if b = 0 then (a : Int) else ((sg a).tmod (sg b)) % 4294967296) from rfl, if_pos hb0] at Q4
  have hz1 : ((b : Int) == 0) = true := by simpa using hb0
  clear hb0
  go_enter Try.func5, Try.ntmps5
  go_wp2_with fail
  refine (fit_ok w).mono ?_
  rintro e w1 ⟨rfl, rfl⟩
  go_wp2_with fail
  refine (Q1.out _).mono ?_
  rintro e w2 ⟨rfl, rfl⟩
  go_wp2_with fail
  refine (Q2.out _).mono ?_
  rintro e w2 ⟨rfl, rfl⟩
  go_wp2_with fail
  refine (Q3.out _).mono ?_
  rintro e w2 ⟨rfl, rfl⟩
  go_wp2_with fail
  refine (Q4.out _).mono ?_
  rintro e w2 ⟨rfl, rfl⟩
  go_wp2_with fail
  refine (H1.out _).mono ?_
  rintro e w2 ⟨rfl, rfl⟩
  go_wp2_with fail
  refine (H2.out _).mono ?_
  rintro e w2 ⟨rfl, rfl⟩
  go_wp2_with fail
  refine (H3.out _).mono ?_
  rintro e w2 ⟨rfl, rfl⟩
  go_wp2
  go_ret
  exact ⟨rfl, Below.refl _ _⟩
set_option maxHeartbeats 3200000 in
theorem parts_nz (a b : Nat) (ha : a < 4294967296) (hb : b < 4294967296) (hb0 : b ≠ 0) (w : World) : Calls Try.prog 5 #[.int .u32 a, .int .u32 b] w fun e w' => e = .returned (.bool true) ∧ Below w.heap.size w w' := by
  obtain ⟨q, r, p, l, u1, u2, b1, b2, b3, b4, w1, w2, w3, w4, t1, t2, t3, t4, hrb, hl⟩ := quot_facts a b ha hb hb0
  obtain ⟨lo, hi, mh, x, y, P, z, T, l1, l2, l3, v1, v2, v3, hx, hy, k1, k2, k3, k4, k5, k6, k7⟩ := parts_pre a b ha hb
  have H1 := Lib.hid (fun w => r17 38 a b ha hb (by decide) (by decide) w)
  have H2 := Lib.hid (fun w => r17 41 a b ha hb (by decide) (by decide) w)
  have H3 := Lib.hid (fun w => r17 39 a b ha hb (by decide) (by decide) w)
  rw [v1] at H1
  rw [v2] at H2
  rw [v3] at H3
  have g1 := u64i hi (by omega)
  have g2 := u64i lo (by omega)
  have g3 := u64i a (by omega)
  have g4 := u64i b (by omega)
  have g5 := u64s hi l2
  have x1 := sg_bd a ha
  have y1 := sg_bd b hb
  have e1 := sg_wrap a ha
  have e2 := sg_wrap b hb
  have e1' := sg_wrapK a ha
  have e2' := sg_wrapK b hb
  rw [← hx] at x1 e1 e1'
  rw [← hy] at y1 e2 e2'
  obtain ⟨x1, x2⟩ := x1
  obtain ⟨y1, y2⟩ := y1
  have HX := Lib.hid hx
  have HY := Lib.hid hy
  clear v1 v2 v3 hx hy
  have Q1 := Lib.hid (fun w => r17 43 a b ha hb (by decide) (by decide) w)
  have Q2 := Lib.hid (fun w => r17 45 a b ha hb (by decide) (by decide) w)
  have Q3 := Lib.hid (fun w => r17 42 a b ha hb (by decide) (by decide) w)
  have Q4 := Lib.hid (fun w => r17 44 a b ha hb (by decide) (by decide) w)
  rw [w1] at Q1
  rw [w2] at Q2
  rw [w3] at Q3
  rw [w4] at Q4
  rw [← HX.out] at hl
  have hz1 : ((b : Int) == 0) = false := by simpa using hb0
  have hd1 : decide (r < b) = true := by simpa using hrb
  have hd2 : decide ((r : Int) < b) = true := by simpa using hrb
  clear hb0 w1 w2 w3 w4 hrb
  rcases hl with hl | ⟨hl, hl2⟩
  · have hl1 : ((l : Int) == 0) = true := by simpa using hl
    clear hl
    go_enter Try.func5, Try.ntmps5
    go_wp2_with fail
    refine (fit_ok w).mono ?_
    rintro e w1 ⟨rfl, rfl⟩
    go_wp2_with fail
    refine (Q1.out _).mono ?_
    rintro e w2 ⟨rfl, rfl⟩
    go_wp2_with fail
    refine (Q2.out _).mono ?_
    rintro e w2 ⟨rfl, rfl⟩
    go_wp2_with fail
    refine (Q3.out _).mono ?_
    rintro e w2 ⟨rfl, rfl⟩
    go_wp2_with fail
    refine (Q4.out _).mono ?_
    rintro e w2 ⟨rfl, rfl⟩
    go_wp2_with fail
    refine (H1.out _).mono ?_
    rintro e w2 ⟨rfl, rfl⟩
    go_wp2_with fail
    refine (H2.out _).mono ?_
    rintro e w2 ⟨rfl, rfl⟩
    go_wp2_with fail
    refine (H3.out _).mono ?_
    rintro e w2 ⟨rfl, rfl⟩
    go_wp2
    go_ret
    exact ⟨rfl, Below.refl _ _⟩
  · have hl1 : ((l : Int) == 0) = false := by simpa using hl
    obtain ⟨t, ht⟩ : ∃ t, t = wrap32 (l : Int) := ⟨_, rfl⟩
    have ht' : wrap32 (l : Int) = t := ht.symm
    have ht2 : IntKind.i32.wrap (l : Int) = t := by rw [ht]; simp [IntKind.wrap, IntKind.bits, IntKind.signed, wrap32]; split <;> omega
    rw [← ht] at hl2
    clear hl ht
    rcases hl2 with ⟨hl2, hl3⟩ | ⟨hl2, hl3⟩
    · have d1 : decide (x ≥ 0) = true := by simpa using hl2
      have d2 : decide (t ≥ 0) = true := by simpa using hl3
      clear hl2 hl3
      go_enter Try.func5, Try.ntmps5
      go_wp2_with fail
      refine (fit_ok w).mono ?_
      rintro e w1 ⟨rfl, rfl⟩
      go_wp2_with fail
      refine (Q1.out _).mono ?_
      rintro e w2 ⟨rfl, rfl⟩
      go_wp2_with fail
      refine (Q2.out _).mono ?_
      rintro e w2 ⟨rfl, rfl⟩
      go_wp2_with fail
      refine (Q3.out _).mono ?_
      rintro e w2 ⟨rfl, rfl⟩
      go_wp2_with fail
      refine (Q4.out _).mono ?_
      rintro e w2 ⟨rfl, rfl⟩
      go_wp2_with fail
      refine (H1.out _).mono ?_
      rintro e w2 ⟨rfl, rfl⟩
      go_wp2_with fail
      refine (H2.out _).mono ?_
      rintro e w2 ⟨rfl, rfl⟩
      go_wp2_with fail
      refine (H3.out _).mono ?_
      rintro e w2 ⟨rfl, rfl⟩
      go_wp2
      go_ret
      exact ⟨rfl, Below.refl _ _⟩
    · have d1 : decide (x ≥ 0) = false := by simpa using hl2
      have d2 : decide (t ≥ 0) = false := by simpa using hl3
      clear hl2 hl3
      go_enter Try.func5, Try.ntmps5
      go_wp2_with fail
      refine (fit_ok w).mono ?_
      rintro e w1 ⟨rfl, rfl⟩
      go_wp2_with fail
      refine (Q1.out _).mono ?_
      rintro e w2 ⟨rfl, rfl⟩
      go_wp2_with fail
      refine (Q2.out _).mono ?_
      rintro e w2 ⟨rfl, rfl⟩
      go_wp2_with fail
      refine (Q3.out _).mono ?_
      rintro e w2 ⟨rfl, rfl⟩
      go_wp2_with fail
      refine (Q4.out _).mono ?_
      rintro e w2 ⟨rfl, rfl⟩
      go_wp2_with fail
      refine (H1.out _).mono ?_
      rintro e w2 ⟨rfl, rfl⟩
      go_wp2_with fail
      refine (H2.out _).mono ?_
      rintro e w2 ⟨rfl, rfl⟩
      go_wp2_with fail
      refine (H3.out _).mono ?_
      rintro e w2 ⟨rfl, rfl⟩
      go_wp2
      go_ret
      exact ⟨rfl, Below.refl _ _⟩
theorem parts_walk (a b : Nat) (ha : a < 4294967296) (hb : b < 4294967296) (w : World) : Calls Try.prog 5 #[.int .u32 a, .int .u32 b] w fun e w' => e = .returned (.bool true) ∧ Below w.heap.size w w' := by
  by_cases h : b = 0
  · exact parts_zero a b ha hb h w
  · exact parts_nz a b ha hb h w
end Go.Proofs.L
