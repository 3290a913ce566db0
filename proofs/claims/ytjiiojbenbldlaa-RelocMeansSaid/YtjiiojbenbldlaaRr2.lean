/- Proved here: lemmas and contracts (Rr2) for the laws of this seat, for all values of the stated types; no further condition. -/
import Derived.Test.YtjiiojbenbldlaaRr1
open Go Go.RowKit Go.Lib
namespace Go.Proofs.L
attribute [local irreducible] wpT
/-! the reference's May -/
def mayN (bias : Nat) (Ss : List Sp) (r : Rl) : Bool :=
  !(decide (sizeN r.ty = 0) || !withinN Ss ((bias + r.at_) % 4294967296) (sizeN r.ty) || decide (r.ty ≠ 1 ∧ r.ty ≠ 3 ∧ (bias + r.at_) % 4294967296 % 4 ≠ 0) || decide (r.ty = 3 ∧ r.sy ≠ 0))
set_option maxRecDepth 100000 in
set_option maxHeartbeats 1600000 in
theorem rmay_1 {w : World} {Ss : List Sp} {P : Option Addr} {b o ns c : Nat} (hS : RsAt w b o Ss) (hn : Ss.length = ns) (hp : 0 < ns → P = some ⟨b, o, none⟩) (hlen : ns < 1000) (bias ra add : Nat) (sy : Int) (hb : bias < 4294967296) (hra : ra < 4294967296) :
    Calls Try.prog 30 #[.agg #[.int .u32 (ra : Int), .int .i64 1, .int .i64 sy, .int .u32 (add : Int)], .int .i64 (bias : Int), .slice P ns c] w fun e w' => e = .returned (.bool (mayN bias Ss ⟨ra, 1, sy, add⟩)) ∧ Chg [] w w' := by
  obtain ⟨q, hq⟩ : ∃ q, q = bias + ra := ⟨_, rfl⟩
  obtain ⟨p, hpp⟩ : ∃ p, p = (bias + ra) % 4294967296 := ⟨_, rfl⟩
  have wa : wrap64 (ra : Int) = (ra : Int) := IntWalk.wrap64_in _ ⟨by omega, by omega⟩
  have wb : wrap64 ((bias : Int) + (ra : Int)) = (q : Int) := by rw [IntWalk.wrap64_in _ ⟨by omega, by omega⟩]; omega
  have HPQ : Hid (lowN (q : Int) = p) := Lib.hid (by rw [lowN_nat, hpp, hq])
  have HPL : Hid (p < 4294967296) := Lib.hid (by omega)
  obtain ⟨X, hX⟩ : ∃ X, X = w.alloc (.cells #[.int .u32 (ra : Int), .int .i64 1, .int .i64 sy, .int .u32 (add : Int)] 32) := ⟨_, rfl⟩
  have hcX : Chg [] w X := by rw [hX]; exact (Chg.refl _ _).alloc _
  have HCX := Lib.hid hcX
  have HSX := Lib.hid (hS.keep hcX (by simp))
  have HRX : Hid (X.row? w.heap.size = some #[.int .u32 (ra : Int), .int .i64 1, .int .i64 sy, .int .u32 (add : Int)]) := Lib.hid (by rw [hX]; exact row_alloc_at _ _ _ _ rfl)
  have c0 : X.cell? ⟨w.heap.size, 0, none⟩ = some (.int .u32 (ra : Int)) := by rw [row_cell HRX.out]; rfl
  have c1 : X.cell? ⟨w.heap.size, 1, none⟩ = some (.int .i64 1) := by rw [row_cell HRX.out]; rfl
  have c2 : X.cell? ⟨w.heap.size, 2, none⟩ = some (.int .i64 sy) := by rw [row_cell HRX.out]; rfl
  have HX := Lib.hid hX
  have HPP := Lib.hid hpp
  have HN := Lib.hid hn
  have HP := Lib.hid hp
  have HL := Lib.hid hlen
  have HM : Hid (mayN bias Ss ⟨ra, 1, sy, add⟩ = !(!withinN Ss p 4 || decide (False) || decide (False))) := Lib.hid (by
    unfold mayN
    rw [show sizeN 1 = 4 from by decide]
    simp only [← hpp]
    simp)
  clear hS hn hp hlen hb hra hq hpp hX hcX
  go_enter Try.func30, Try.ntmps30
  go_upto_region 1 with (fail)
  rw [← HX.out]
  clear HX
  go_wp2_with fail
  refine (low_any (q : Int) X).mono ?_
  rintro e w' ⟨rfl, hw⟩
  obtain rfl := hw.symm
  clear hw
  rw [HPQ.out]
  clear wa wb c0
  go_wp2_with fail
  refine (rwithin_any HSX.out HN.out HP.out p 4 HPL.out (by decide) HL.out).mono ?_
  rintro e w2 ⟨rfl, hc2⟩
  have HC2 := Lib.hid (HCX.out.trans hc2)
  have hr2 : w2.row? w.heap.size = some #[.int .u32 (ra : Int), .int .i64 1, .int .i64 sy, .int .u32 (add : Int)] := (hc2.row (row_lt HRX.out) (by simp)).trans HRX.out
  clear c1 c2
  have c1 : w2.cell? ⟨w.heap.size, 1, none⟩ = some (.int .i64 1) := by rw [row_cell hr2]; rfl
  have c2 : w2.cell? ⟨w.heap.size, 2, none⟩ = some (.int .i64 sy) := by rw [row_cell hr2]; rfl
  clear hr2 hc2
  obtain ⟨wi, hwi⟩ : ∃ wi, wi = withinN Ss p 4 := ⟨_, rfl⟩
  rw [← hwi] at HM ⊢
  clear hwi
  cases wi with
  | false =>
    go_wp2
    go_ret
    exact ⟨by rw [HM.out]; rfl, HC2.out⟩
  | true =>
    go_wp2
    go_ret
    exact ⟨by rw [HM.out]; first | rfl | simp_all, HC2.out⟩
set_option maxRecDepth 100000 in
set_option maxHeartbeats 1600000 in
theorem rmay_3 {w : World} {Ss : List Sp} {P : Option Addr} {b o ns c : Nat} (hS : RsAt w b o Ss) (hn : Ss.length = ns) (hp : 0 < ns → P = some ⟨b, o, none⟩) (hlen : ns < 1000) (bias ra add : Nat) (sy : Int) (hb : bias < 4294967296) (hra : ra < 4294967296) :
    Calls Try.prog 30 #[.agg #[.int .u32 (ra : Int), .int .i64 3, .int .i64 sy, .int .u32 (add : Int)], .int .i64 (bias : Int), .slice P ns c] w fun e w' => e = .returned (.bool (mayN bias Ss ⟨ra, 3, sy, add⟩)) ∧ Chg [] w w' := by
  obtain ⟨q, hq⟩ : ∃ q, q = bias + ra := ⟨_, rfl⟩
  obtain ⟨p, hpp⟩ : ∃ p, p = (bias + ra) % 4294967296 := ⟨_, rfl⟩
  have wa : wrap64 (ra : Int) = (ra : Int) := IntWalk.wrap64_in _ ⟨by omega, by omega⟩
  have wb : wrap64 ((bias : Int) + (ra : Int)) = (q : Int) := by rw [IntWalk.wrap64_in _ ⟨by omega, by omega⟩]; omega
  have HPQ : Hid (lowN (q : Int) = p) := Lib.hid (by rw [lowN_nat, hpp, hq])
  have HPL : Hid (p < 4294967296) := Lib.hid (by omega)
  obtain ⟨X, hX⟩ : ∃ X, X = w.alloc (.cells #[.int .u32 (ra : Int), .int .i64 3, .int .i64 sy, .int .u32 (add : Int)] 32) := ⟨_, rfl⟩
  have hcX : Chg [] w X := by rw [hX]; exact (Chg.refl _ _).alloc _
  have HCX := Lib.hid hcX
  have HSX := Lib.hid (hS.keep hcX (by simp))
  have HRX : Hid (X.row? w.heap.size = some #[.int .u32 (ra : Int), .int .i64 3, .int .i64 sy, .int .u32 (add : Int)]) := Lib.hid (by rw [hX]; exact row_alloc_at _ _ _ _ rfl)
  have c0 : X.cell? ⟨w.heap.size, 0, none⟩ = some (.int .u32 (ra : Int)) := by rw [row_cell HRX.out]; rfl
  have c1 : X.cell? ⟨w.heap.size, 1, none⟩ = some (.int .i64 3) := by rw [row_cell HRX.out]; rfl
  have c2 : X.cell? ⟨w.heap.size, 2, none⟩ = some (.int .i64 sy) := by rw [row_cell HRX.out]; rfl
  have HX := Lib.hid hX
  have HPP := Lib.hid hpp
  have HN := Lib.hid hn
  have HP := Lib.hid hp
  have HL := Lib.hid hlen
  have HM : Hid (mayN bias Ss ⟨ra, 3, sy, add⟩ = !(!withinN Ss p 4 || decide (False) || decide (sy ≠ 0))) := Lib.hid (by
    unfold mayN
    rw [show sizeN 3 = 4 from by decide]
    simp only [← hpp]
    simp)
  clear hS hn hp hlen hb hra hq hpp hX hcX
  go_enter Try.func30, Try.ntmps30
  go_upto_region 1 with (fail)
  rw [← HX.out]
  clear HX
  go_wp2_with fail
  refine (low_any (q : Int) X).mono ?_
  rintro e w' ⟨rfl, hw⟩
  obtain rfl := hw.symm
  clear hw
  rw [HPQ.out]
  clear wa wb c0
  go_wp2_with fail
  refine (rwithin_any HSX.out HN.out HP.out p 4 HPL.out (by decide) HL.out).mono ?_
  rintro e w2 ⟨rfl, hc2⟩
  have HC2 := Lib.hid (HCX.out.trans hc2)
  have hr2 : w2.row? w.heap.size = some #[.int .u32 (ra : Int), .int .i64 3, .int .i64 sy, .int .u32 (add : Int)] := (hc2.row (row_lt HRX.out) (by simp)).trans HRX.out
  clear c1 c2
  have c1 : w2.cell? ⟨w.heap.size, 1, none⟩ = some (.int .i64 3) := by rw [row_cell hr2]; rfl
  have c2 : w2.cell? ⟨w.heap.size, 2, none⟩ = some (.int .i64 sy) := by rw [row_cell hr2]; rfl
  clear hr2 hc2
  obtain ⟨wi, hwi⟩ : ∃ wi, wi = withinN Ss p 4 := ⟨_, rfl⟩
  rw [← hwi] at HM ⊢
  clear hwi
  cases wi with
  | false =>
    go_wp2
    go_ret
    exact ⟨by rw [HM.out]; rfl, HC2.out⟩
  | true =>
    by_cases h0 : sy = 0
    · have d0 : (sy == 0) = true := by rw [beq_iff_eq]; exact h0
      have HM2 : Hid (mayN bias Ss ⟨ra, 3, sy, add⟩ = true) := Lib.hid (by rw [HM.out]; simp [h0])
      clear HM
      go_wp2
      go_ret
      exact ⟨by rw [HM2.out]; rfl, HC2.out⟩
    · have d0 : (sy == 0) = false := by rw [beq_eq_false_iff_ne]; exact h0
      have HM2 : Hid (mayN bias Ss ⟨ra, 3, sy, add⟩ = false) := Lib.hid (by rw [HM.out]; simp [h0])
      clear HM
      go_wp2
      go_ret
      exact ⟨by rw [HM2.out]; rfl, HC2.out⟩
set_option maxRecDepth 100000 in
set_option maxHeartbeats 1600000 in
theorem rmay_16 {w : World} {Ss : List Sp} {P : Option Addr} {b o ns c : Nat} (hS : RsAt w b o Ss) (hn : Ss.length = ns) (hp : 0 < ns → P = some ⟨b, o, none⟩) (hlen : ns < 1000) (bias ra add : Nat) (sy : Int) (hb : bias < 4294967296) (hra : ra < 4294967296) :
    Calls Try.prog 30 #[.agg #[.int .u32 (ra : Int), .int .i64 16, .int .i64 sy, .int .u32 (add : Int)], .int .i64 (bias : Int), .slice P ns c] w fun e w' => e = .returned (.bool (mayN bias Ss ⟨ra, 16, sy, add⟩)) ∧ Chg [] w w' := by
  obtain ⟨q, hq⟩ : ∃ q, q = bias + ra := ⟨_, rfl⟩
  obtain ⟨p, hpp⟩ : ∃ p, p = (bias + ra) % 4294967296 := ⟨_, rfl⟩
  have wa : wrap64 (ra : Int) = (ra : Int) := IntWalk.wrap64_in _ ⟨by omega, by omega⟩
  have wb : wrap64 ((bias : Int) + (ra : Int)) = (q : Int) := by rw [IntWalk.wrap64_in _ ⟨by omega, by omega⟩]; omega
  have HPQ : Hid (lowN (q : Int) = p) := Lib.hid (by rw [lowN_nat, hpp, hq])
  have HPL : Hid (p < 4294967296) := Lib.hid (by omega)
  obtain ⟨X, hX⟩ : ∃ X, X = w.alloc (.cells #[.int .u32 (ra : Int), .int .i64 16, .int .i64 sy, .int .u32 (add : Int)] 32) := ⟨_, rfl⟩
  have hcX : Chg [] w X := by rw [hX]; exact (Chg.refl _ _).alloc _
  have HCX := Lib.hid hcX
  have HSX := Lib.hid (hS.keep hcX (by simp))
  have HRX : Hid (X.row? w.heap.size = some #[.int .u32 (ra : Int), .int .i64 16, .int .i64 sy, .int .u32 (add : Int)]) := Lib.hid (by rw [hX]; exact row_alloc_at _ _ _ _ rfl)
  have c0 : X.cell? ⟨w.heap.size, 0, none⟩ = some (.int .u32 (ra : Int)) := by rw [row_cell HRX.out]; rfl
  have c1 : X.cell? ⟨w.heap.size, 1, none⟩ = some (.int .i64 16) := by rw [row_cell HRX.out]; rfl
  have c2 : X.cell? ⟨w.heap.size, 2, none⟩ = some (.int .i64 sy) := by rw [row_cell HRX.out]; rfl
  have HX := Lib.hid hX
  have HPP := Lib.hid hpp
  have HN := Lib.hid hn
  have HP := Lib.hid hp
  have HL := Lib.hid hlen
  have HM : Hid (mayN bias Ss ⟨ra, 16, sy, add⟩ = !(!withinN Ss p 4 || decide (p % 4 ≠ 0) || decide (False))) := Lib.hid (by
    unfold mayN
    rw [show sizeN 16 = 4 from by decide]
    simp only [← hpp]
    simp)
  clear hS hn hp hlen hb hra hq hpp hX hcX
  go_enter Try.func30, Try.ntmps30
  go_upto_region 1 with (fail)
  rw [← HX.out]
  clear HX
  go_wp2_with fail
  refine (low_any (q : Int) X).mono ?_
  rintro e w' ⟨rfl, hw⟩
  obtain rfl := hw.symm
  clear hw
  rw [HPQ.out]
  clear wa wb c0
  go_wp2_with fail
  refine (rwithin_any HSX.out HN.out HP.out p 4 HPL.out (by decide) HL.out).mono ?_
  rintro e w2 ⟨rfl, hc2⟩
  have HC2 := Lib.hid (HCX.out.trans hc2)
  have hr2 : w2.row? w.heap.size = some #[.int .u32 (ra : Int), .int .i64 16, .int .i64 sy, .int .u32 (add : Int)] := (hc2.row (row_lt HRX.out) (by simp)).trans HRX.out
  clear c1 c2
  have c1 : w2.cell? ⟨w.heap.size, 1, none⟩ = some (.int .i64 16) := by rw [row_cell hr2]; rfl
  have c2 : w2.cell? ⟨w.heap.size, 2, none⟩ = some (.int .i64 sy) := by rw [row_cell hr2]; rfl
  clear hr2 hc2
  obtain ⟨wi, hwi⟩ : ∃ wi, wi = withinN Ss p 4 := ⟨_, rfl⟩
  rw [← hwi] at HM ⊢
  clear hwi
  cases wi with
  | false =>
    go_wp2
    go_ret
    exact ⟨by rw [HM.out]; rfl, HC2.out⟩
  | true =>
    obtain ⟨m, hm⟩ : ∃ m, m = p % 4 := ⟨_, rfl⟩
    have e4 : (p : Int).tmod 4 = (m : Int) := by rw [Int.tmod_eq_emod_of_nonneg (by omega)]; omega
    have e5 : (p : Int) % 4 = (m : Int) := by omega
    rw [← hm] at HM
    clear hm
    by_cases h0 : m = 0
    · have HM2 : Hid (mayN bias Ss ⟨ra, 16, sy, add⟩ = true) := Lib.hid (by rw [HM.out]; simp [h0])
      clear HM
      subst h0
      go_wp2
      go_ret
      exact ⟨by rw [HM2.out]; rfl, HC2.out⟩
    · have HM2 : Hid (mayN bias Ss ⟨ra, 16, sy, add⟩ = false) := Lib.hid (by rw [HM.out]; simp [h0])
      have d0 : ((m : Int) == 0) = false := by rw [beq_eq_false_iff_ne]; omega
      clear HM
      go_wp2
      go_ret
      exact ⟨by rw [HM2.out]; rfl, HC2.out⟩
set_option maxRecDepth 100000 in
set_option maxHeartbeats 1600000 in
theorem rmay_17 {w : World} {Ss : List Sp} {P : Option Addr} {b o ns c : Nat} (hS : RsAt w b o Ss) (hn : Ss.length = ns) (hp : 0 < ns → P = some ⟨b, o, none⟩) (hlen : ns < 1000) (bias ra add : Nat) (sy : Int) (hb : bias < 4294967296) (hra : ra < 4294967296) :
    Calls Try.prog 30 #[.agg #[.int .u32 (ra : Int), .int .i64 17, .int .i64 sy, .int .u32 (add : Int)], .int .i64 (bias : Int), .slice P ns c] w fun e w' => e = .returned (.bool (mayN bias Ss ⟨ra, 17, sy, add⟩)) ∧ Chg [] w w' := by
  obtain ⟨q, hq⟩ : ∃ q, q = bias + ra := ⟨_, rfl⟩
  obtain ⟨p, hpp⟩ : ∃ p, p = (bias + ra) % 4294967296 := ⟨_, rfl⟩
  have wa : wrap64 (ra : Int) = (ra : Int) := IntWalk.wrap64_in _ ⟨by omega, by omega⟩
  have wb : wrap64 ((bias : Int) + (ra : Int)) = (q : Int) := by rw [IntWalk.wrap64_in _ ⟨by omega, by omega⟩]; omega
  have HPQ : Hid (lowN (q : Int) = p) := Lib.hid (by rw [lowN_nat, hpp, hq])
  have HPL : Hid (p < 4294967296) := Lib.hid (by omega)
  obtain ⟨X, hX⟩ : ∃ X, X = w.alloc (.cells #[.int .u32 (ra : Int), .int .i64 17, .int .i64 sy, .int .u32 (add : Int)] 32) := ⟨_, rfl⟩
  have hcX : Chg [] w X := by rw [hX]; exact (Chg.refl _ _).alloc _
  have HCX := Lib.hid hcX
  have HSX := Lib.hid (hS.keep hcX (by simp))
  have HRX : Hid (X.row? w.heap.size = some #[.int .u32 (ra : Int), .int .i64 17, .int .i64 sy, .int .u32 (add : Int)]) := Lib.hid (by rw [hX]; exact row_alloc_at _ _ _ _ rfl)
  have c0 : X.cell? ⟨w.heap.size, 0, none⟩ = some (.int .u32 (ra : Int)) := by rw [row_cell HRX.out]; rfl
  have c1 : X.cell? ⟨w.heap.size, 1, none⟩ = some (.int .i64 17) := by rw [row_cell HRX.out]; rfl
  have c2 : X.cell? ⟨w.heap.size, 2, none⟩ = some (.int .i64 sy) := by rw [row_cell HRX.out]; rfl
  have HX := Lib.hid hX
  have HPP := Lib.hid hpp
  have HN := Lib.hid hn
  have HP := Lib.hid hp
  have HL := Lib.hid hlen
  have HM : Hid (mayN bias Ss ⟨ra, 17, sy, add⟩ = !(!withinN Ss p 4 || decide (p % 4 ≠ 0) || decide (False))) := Lib.hid (by
    unfold mayN
    rw [show sizeN 17 = 4 from by decide]
    simp only [← hpp]
    simp)
  clear hS hn hp hlen hb hra hq hpp hX hcX
  go_enter Try.func30, Try.ntmps30
  go_upto_region 1 with (fail)
  rw [← HX.out]
  clear HX
  go_wp2_with fail
  refine (low_any (q : Int) X).mono ?_
  rintro e w' ⟨rfl, hw⟩
  obtain rfl := hw.symm
  clear hw
  rw [HPQ.out]
  clear wa wb c0
  go_wp2_with fail
  refine (rwithin_any HSX.out HN.out HP.out p 4 HPL.out (by decide) HL.out).mono ?_
  rintro e w2 ⟨rfl, hc2⟩
  have HC2 := Lib.hid (HCX.out.trans hc2)
  have hr2 : w2.row? w.heap.size = some #[.int .u32 (ra : Int), .int .i64 17, .int .i64 sy, .int .u32 (add : Int)] := (hc2.row (row_lt HRX.out) (by simp)).trans HRX.out
  clear c1 c2
  have c1 : w2.cell? ⟨w.heap.size, 1, none⟩ = some (.int .i64 17) := by rw [row_cell hr2]; rfl
  have c2 : w2.cell? ⟨w.heap.size, 2, none⟩ = some (.int .i64 sy) := by rw [row_cell hr2]; rfl
  clear hr2 hc2
  obtain ⟨wi, hwi⟩ : ∃ wi, wi = withinN Ss p 4 := ⟨_, rfl⟩
  rw [← hwi] at HM ⊢
  clear hwi
  cases wi with
  | false =>
    go_wp2
    go_ret
    exact ⟨by rw [HM.out]; rfl, HC2.out⟩
  | true =>
    obtain ⟨m, hm⟩ : ∃ m, m = p % 4 := ⟨_, rfl⟩
    have e4 : (p : Int).tmod 4 = (m : Int) := by rw [Int.tmod_eq_emod_of_nonneg (by omega)]; omega
    have e5 : (p : Int) % 4 = (m : Int) := by omega
    rw [← hm] at HM
    clear hm
    by_cases h0 : m = 0
    · have HM2 : Hid (mayN bias Ss ⟨ra, 17, sy, add⟩ = true) := Lib.hid (by rw [HM.out]; simp [h0])
      clear HM
      subst h0
      go_wp2
      go_ret
      exact ⟨by rw [HM2.out]; rfl, HC2.out⟩
    · have HM2 : Hid (mayN bias Ss ⟨ra, 17, sy, add⟩ = false) := Lib.hid (by rw [HM.out]; simp [h0])
      have d0 : ((m : Int) == 0) = false := by rw [beq_eq_false_iff_ne]; omega
      clear HM
      go_wp2
      go_ret
      exact ⟨by rw [HM2.out]; rfl, HC2.out⟩
set_option maxRecDepth 100000 in
set_option maxHeartbeats 1600000 in
theorem rmay_18 {w : World} {Ss : List Sp} {P : Option Addr} {b o ns c : Nat} (hS : RsAt w b o Ss) (hn : Ss.length = ns) (hp : 0 < ns → P = some ⟨b, o, none⟩) (hlen : ns < 1000) (bias ra add : Nat) (sy : Int) (hb : bias < 4294967296) (hra : ra < 4294967296) :
    Calls Try.prog 30 #[.agg #[.int .u32 (ra : Int), .int .i64 18, .int .i64 sy, .int .u32 (add : Int)], .int .i64 (bias : Int), .slice P ns c] w fun e w' => e = .returned (.bool (mayN bias Ss ⟨ra, 18, sy, add⟩)) ∧ Chg [] w w' := by
  obtain ⟨q, hq⟩ : ∃ q, q = bias + ra := ⟨_, rfl⟩
  obtain ⟨p, hpp⟩ : ∃ p, p = (bias + ra) % 4294967296 := ⟨_, rfl⟩
  have wa : wrap64 (ra : Int) = (ra : Int) := IntWalk.wrap64_in _ ⟨by omega, by omega⟩
  have wb : wrap64 ((bias : Int) + (ra : Int)) = (q : Int) := by rw [IntWalk.wrap64_in _ ⟨by omega, by omega⟩]; omega
  have HPQ : Hid (lowN (q : Int) = p) := Lib.hid (by rw [lowN_nat, hpp, hq])
  have HPL : Hid (p < 4294967296) := Lib.hid (by omega)
  obtain ⟨X, hX⟩ : ∃ X, X = w.alloc (.cells #[.int .u32 (ra : Int), .int .i64 18, .int .i64 sy, .int .u32 (add : Int)] 32) := ⟨_, rfl⟩
  have hcX : Chg [] w X := by rw [hX]; exact (Chg.refl _ _).alloc _
  have HCX := Lib.hid hcX
  have HSX := Lib.hid (hS.keep hcX (by simp))
  have HRX : Hid (X.row? w.heap.size = some #[.int .u32 (ra : Int), .int .i64 18, .int .i64 sy, .int .u32 (add : Int)]) := Lib.hid (by rw [hX]; exact row_alloc_at _ _ _ _ rfl)
  have c0 : X.cell? ⟨w.heap.size, 0, none⟩ = some (.int .u32 (ra : Int)) := by rw [row_cell HRX.out]; rfl
  have c1 : X.cell? ⟨w.heap.size, 1, none⟩ = some (.int .i64 18) := by rw [row_cell HRX.out]; rfl
  have c2 : X.cell? ⟨w.heap.size, 2, none⟩ = some (.int .i64 sy) := by rw [row_cell HRX.out]; rfl
  have HX := Lib.hid hX
  have HPP := Lib.hid hpp
  have HN := Lib.hid hn
  have HP := Lib.hid hp
  have HL := Lib.hid hlen
  have HM : Hid (mayN bias Ss ⟨ra, 18, sy, add⟩ = !(!withinN Ss p 8 || decide (p % 4 ≠ 0) || decide (False))) := Lib.hid (by
    unfold mayN
    rw [show sizeN 18 = 8 from by decide]
    simp only [← hpp]
    simp)
  clear hS hn hp hlen hb hra hq hpp hX hcX
  go_enter Try.func30, Try.ntmps30
  go_upto_region 1 with (fail)
  rw [← HX.out]
  clear HX
  go_wp2_with fail
  refine (low_any (q : Int) X).mono ?_
  rintro e w' ⟨rfl, hw⟩
  obtain rfl := hw.symm
  clear hw
  rw [HPQ.out]
  clear wa wb c0
  go_wp2_with fail
  refine (rwithin_any HSX.out HN.out HP.out p 8 HPL.out (by decide) HL.out).mono ?_
  rintro e w2 ⟨rfl, hc2⟩
  have HC2 := Lib.hid (HCX.out.trans hc2)
  have hr2 : w2.row? w.heap.size = some #[.int .u32 (ra : Int), .int .i64 18, .int .i64 sy, .int .u32 (add : Int)] := (hc2.row (row_lt HRX.out) (by simp)).trans HRX.out
  clear c1 c2
  have c1 : w2.cell? ⟨w.heap.size, 1, none⟩ = some (.int .i64 18) := by rw [row_cell hr2]; rfl
  have c2 : w2.cell? ⟨w.heap.size, 2, none⟩ = some (.int .i64 sy) := by rw [row_cell hr2]; rfl
  clear hr2 hc2
  obtain ⟨wi, hwi⟩ : ∃ wi, wi = withinN Ss p 8 := ⟨_, rfl⟩
  rw [← hwi] at HM ⊢
  clear hwi
  cases wi with
  | false =>
    go_wp2
    go_ret
    exact ⟨by rw [HM.out]; rfl, HC2.out⟩
  | true =>
    obtain ⟨m, hm⟩ : ∃ m, m = p % 4 := ⟨_, rfl⟩
    have e4 : (p : Int).tmod 4 = (m : Int) := by rw [Int.tmod_eq_emod_of_nonneg (by omega)]; omega
    have e5 : (p : Int) % 4 = (m : Int) := by omega
    rw [← hm] at HM
    clear hm
    by_cases h0 : m = 0
    · have HM2 : Hid (mayN bias Ss ⟨ra, 18, sy, add⟩ = true) := Lib.hid (by rw [HM.out]; simp [h0])
      clear HM
      subst h0
      go_wp2
      go_ret
      exact ⟨by rw [HM2.out]; rfl, HC2.out⟩
    · have HM2 : Hid (mayN bias Ss ⟨ra, 18, sy, add⟩ = false) := Lib.hid (by rw [HM.out]; simp [h0])
      have d0 : ((m : Int) == 0) = false := by rw [beq_eq_false_iff_ne]; omega
      clear HM
      go_wp2
      go_ret
      exact ⟨by rw [HM2.out]; rfl, HC2.out⟩
set_option maxRecDepth 100000 in
set_option maxHeartbeats 1600000 in
theorem rmay_19 {w : World} {Ss : List Sp} {P : Option Addr} {b o ns c : Nat} (hS : RsAt w b o Ss) (hn : Ss.length = ns) (hp : 0 < ns → P = some ⟨b, o, none⟩) (hlen : ns < 1000) (bias ra add : Nat) (sy : Int) (hb : bias < 4294967296) (hra : ra < 4294967296) :
    Calls Try.prog 30 #[.agg #[.int .u32 (ra : Int), .int .i64 19, .int .i64 sy, .int .u32 (add : Int)], .int .i64 (bias : Int), .slice P ns c] w fun e w' => e = .returned (.bool (mayN bias Ss ⟨ra, 19, sy, add⟩)) ∧ Chg [] w w' := by
  obtain ⟨q, hq⟩ : ∃ q, q = bias + ra := ⟨_, rfl⟩
  obtain ⟨p, hpp⟩ : ∃ p, p = (bias + ra) % 4294967296 := ⟨_, rfl⟩
  have wa : wrap64 (ra : Int) = (ra : Int) := IntWalk.wrap64_in _ ⟨by omega, by omega⟩
  have wb : wrap64 ((bias : Int) + (ra : Int)) = (q : Int) := by rw [IntWalk.wrap64_in _ ⟨by omega, by omega⟩]; omega
  have HPQ : Hid (lowN (q : Int) = p) := Lib.hid (by rw [lowN_nat, hpp, hq])
  have HPL : Hid (p < 4294967296) := Lib.hid (by omega)
  obtain ⟨X, hX⟩ : ∃ X, X = w.alloc (.cells #[.int .u32 (ra : Int), .int .i64 19, .int .i64 sy, .int .u32 (add : Int)] 32) := ⟨_, rfl⟩
  have hcX : Chg [] w X := by rw [hX]; exact (Chg.refl _ _).alloc _
  have HCX := Lib.hid hcX
  have HSX := Lib.hid (hS.keep hcX (by simp))
  have HRX : Hid (X.row? w.heap.size = some #[.int .u32 (ra : Int), .int .i64 19, .int .i64 sy, .int .u32 (add : Int)]) := Lib.hid (by rw [hX]; exact row_alloc_at _ _ _ _ rfl)
  have c0 : X.cell? ⟨w.heap.size, 0, none⟩ = some (.int .u32 (ra : Int)) := by rw [row_cell HRX.out]; rfl
  have c1 : X.cell? ⟨w.heap.size, 1, none⟩ = some (.int .i64 19) := by rw [row_cell HRX.out]; rfl
  have c2 : X.cell? ⟨w.heap.size, 2, none⟩ = some (.int .i64 sy) := by rw [row_cell HRX.out]; rfl
  have HX := Lib.hid hX
  have HPP := Lib.hid hpp
  have HN := Lib.hid hn
  have HP := Lib.hid hp
  have HL := Lib.hid hlen
  have HM : Hid (mayN bias Ss ⟨ra, 19, sy, add⟩ = !(!withinN Ss p 8 || decide (p % 4 ≠ 0) || decide (False))) := Lib.hid (by
    unfold mayN
    rw [show sizeN 19 = 8 from by decide]
    simp only [← hpp]
    simp)
  clear hS hn hp hlen hb hra hq hpp hX hcX
  go_enter Try.func30, Try.ntmps30
  go_upto_region 1 with (fail)
  rw [← HX.out]
  clear HX
  go_wp2_with fail
  refine (low_any (q : Int) X).mono ?_
  rintro e w' ⟨rfl, hw⟩
  obtain rfl := hw.symm
  clear hw
  rw [HPQ.out]
  clear wa wb c0
  go_wp2_with fail
  refine (rwithin_any HSX.out HN.out HP.out p 8 HPL.out (by decide) HL.out).mono ?_
  rintro e w2 ⟨rfl, hc2⟩
  have HC2 := Lib.hid (HCX.out.trans hc2)
  have hr2 : w2.row? w.heap.size = some #[.int .u32 (ra : Int), .int .i64 19, .int .i64 sy, .int .u32 (add : Int)] := (hc2.row (row_lt HRX.out) (by simp)).trans HRX.out
  clear c1 c2
  have c1 : w2.cell? ⟨w.heap.size, 1, none⟩ = some (.int .i64 19) := by rw [row_cell hr2]; rfl
  have c2 : w2.cell? ⟨w.heap.size, 2, none⟩ = some (.int .i64 sy) := by rw [row_cell hr2]; rfl
  clear hr2 hc2
  obtain ⟨wi, hwi⟩ : ∃ wi, wi = withinN Ss p 8 := ⟨_, rfl⟩
  rw [← hwi] at HM ⊢
  clear hwi
  cases wi with
  | false =>
    go_wp2
    go_ret
    exact ⟨by rw [HM.out]; rfl, HC2.out⟩
  | true =>
    obtain ⟨m, hm⟩ : ∃ m, m = p % 4 := ⟨_, rfl⟩
    have e4 : (p : Int).tmod 4 = (m : Int) := by rw [Int.tmod_eq_emod_of_nonneg (by omega)]; omega
    have e5 : (p : Int) % 4 = (m : Int) := by omega
    rw [← hm] at HM
    clear hm
    by_cases h0 : m = 0
    · have HM2 : Hid (mayN bias Ss ⟨ra, 19, sy, add⟩ = true) := Lib.hid (by rw [HM.out]; simp [h0])
      clear HM
      subst h0
      go_wp2
      go_ret
      exact ⟨by rw [HM2.out]; rfl, HC2.out⟩
    · have HM2 : Hid (mayN bias Ss ⟨ra, 19, sy, add⟩ = false) := Lib.hid (by rw [HM.out]; simp [h0])
      have d0 : ((m : Int) == 0) = false := by rw [beq_eq_false_iff_ne]; omega
      clear HM
      go_wp2
      go_ret
      exact ⟨by rw [HM2.out]; rfl, HC2.out⟩
set_option maxRecDepth 100000 in
set_option maxHeartbeats 1600000 in
theorem rmay_23 {w : World} {Ss : List Sp} {P : Option Addr} {b o ns c : Nat} (hS : RsAt w b o Ss) (hn : Ss.length = ns) (hp : 0 < ns → P = some ⟨b, o, none⟩) (hlen : ns < 1000) (bias ra add : Nat) (sy : Int) (hb : bias < 4294967296) (hra : ra < 4294967296) :
    Calls Try.prog 30 #[.agg #[.int .u32 (ra : Int), .int .i64 23, .int .i64 sy, .int .u32 (add : Int)], .int .i64 (bias : Int), .slice P ns c] w fun e w' => e = .returned (.bool (mayN bias Ss ⟨ra, 23, sy, add⟩)) ∧ Chg [] w w' := by
  obtain ⟨q, hq⟩ : ∃ q, q = bias + ra := ⟨_, rfl⟩
  obtain ⟨p, hpp⟩ : ∃ p, p = (bias + ra) % 4294967296 := ⟨_, rfl⟩
  have wa : wrap64 (ra : Int) = (ra : Int) := IntWalk.wrap64_in _ ⟨by omega, by omega⟩
  have wb : wrap64 ((bias : Int) + (ra : Int)) = (q : Int) := by rw [IntWalk.wrap64_in _ ⟨by omega, by omega⟩]; omega
  have HPQ : Hid (lowN (q : Int) = p) := Lib.hid (by rw [lowN_nat, hpp, hq])
  have HPL : Hid (p < 4294967296) := Lib.hid (by omega)
  obtain ⟨X, hX⟩ : ∃ X, X = w.alloc (.cells #[.int .u32 (ra : Int), .int .i64 23, .int .i64 sy, .int .u32 (add : Int)] 32) := ⟨_, rfl⟩
  have hcX : Chg [] w X := by rw [hX]; exact (Chg.refl _ _).alloc _
  have HCX := Lib.hid hcX
  have HSX := Lib.hid (hS.keep hcX (by simp))
  have HRX : Hid (X.row? w.heap.size = some #[.int .u32 (ra : Int), .int .i64 23, .int .i64 sy, .int .u32 (add : Int)]) := Lib.hid (by rw [hX]; exact row_alloc_at _ _ _ _ rfl)
  have c0 : X.cell? ⟨w.heap.size, 0, none⟩ = some (.int .u32 (ra : Int)) := by rw [row_cell HRX.out]; rfl
  have c1 : X.cell? ⟨w.heap.size, 1, none⟩ = some (.int .i64 23) := by rw [row_cell HRX.out]; rfl
  have c2 : X.cell? ⟨w.heap.size, 2, none⟩ = some (.int .i64 sy) := by rw [row_cell HRX.out]; rfl
  have HX := Lib.hid hX
  have HPP := Lib.hid hpp
  have HN := Lib.hid hn
  have HP := Lib.hid hp
  have HL := Lib.hid hlen
  have HM : Hid (mayN bias Ss ⟨ra, 23, sy, add⟩ = !(!withinN Ss p 4 || decide (p % 4 ≠ 0) || decide (False))) := Lib.hid (by
    unfold mayN
    rw [show sizeN 23 = 4 from by decide]
    simp only [← hpp]
    simp)
  clear hS hn hp hlen hb hra hq hpp hX hcX
  go_enter Try.func30, Try.ntmps30
  go_upto_region 1 with (fail)
  rw [← HX.out]
  clear HX
  go_wp2_with fail
  refine (low_any (q : Int) X).mono ?_
  rintro e w' ⟨rfl, hw⟩
  obtain rfl := hw.symm
  clear hw
  rw [HPQ.out]
  clear wa wb c0
  go_wp2_with fail
  refine (rwithin_any HSX.out HN.out HP.out p 4 HPL.out (by decide) HL.out).mono ?_
  rintro e w2 ⟨rfl, hc2⟩
  have HC2 := Lib.hid (HCX.out.trans hc2)
  have hr2 : w2.row? w.heap.size = some #[.int .u32 (ra : Int), .int .i64 23, .int .i64 sy, .int .u32 (add : Int)] := (hc2.row (row_lt HRX.out) (by simp)).trans HRX.out
  clear c1 c2
  have c1 : w2.cell? ⟨w.heap.size, 1, none⟩ = some (.int .i64 23) := by rw [row_cell hr2]; rfl
  have c2 : w2.cell? ⟨w.heap.size, 2, none⟩ = some (.int .i64 sy) := by rw [row_cell hr2]; rfl
  clear hr2 hc2
  obtain ⟨wi, hwi⟩ : ∃ wi, wi = withinN Ss p 4 := ⟨_, rfl⟩
  rw [← hwi] at HM ⊢
  clear hwi
  cases wi with
  | false =>
    go_wp2
    go_ret
    exact ⟨by rw [HM.out]; rfl, HC2.out⟩
  | true =>
    obtain ⟨m, hm⟩ : ∃ m, m = p % 4 := ⟨_, rfl⟩
    have e4 : (p : Int).tmod 4 = (m : Int) := by rw [Int.tmod_eq_emod_of_nonneg (by omega)]; omega
    have e5 : (p : Int) % 4 = (m : Int) := by omega
    rw [← hm] at HM
    clear hm
    by_cases h0 : m = 0
    · have HM2 : Hid (mayN bias Ss ⟨ra, 23, sy, add⟩ = true) := Lib.hid (by rw [HM.out]; simp [h0])
      clear HM
      subst h0
      go_wp2
      go_ret
      exact ⟨by rw [HM2.out]; rfl, HC2.out⟩
    · have HM2 : Hid (mayN bias Ss ⟨ra, 23, sy, add⟩ = false) := Lib.hid (by rw [HM.out]; simp [h0])
      have d0 : ((m : Int) == 0) = false := by rw [beq_eq_false_iff_ne]; omega
      clear HM
      go_wp2
      go_ret
      exact ⟨by rw [HM2.out]; rfl, HC2.out⟩
set_option maxRecDepth 100000 in
set_option maxHeartbeats 1600000 in
theorem rmay_24 {w : World} {Ss : List Sp} {P : Option Addr} {b o ns c : Nat} (hS : RsAt w b o Ss) (hn : Ss.length = ns) (hp : 0 < ns → P = some ⟨b, o, none⟩) (hlen : ns < 1000) (bias ra add : Nat) (sy : Int) (hb : bias < 4294967296) (hra : ra < 4294967296) :
    Calls Try.prog 30 #[.agg #[.int .u32 (ra : Int), .int .i64 24, .int .i64 sy, .int .u32 (add : Int)], .int .i64 (bias : Int), .slice P ns c] w fun e w' => e = .returned (.bool (mayN bias Ss ⟨ra, 24, sy, add⟩)) ∧ Chg [] w w' := by
  obtain ⟨q, hq⟩ : ∃ q, q = bias + ra := ⟨_, rfl⟩
  obtain ⟨p, hpp⟩ : ∃ p, p = (bias + ra) % 4294967296 := ⟨_, rfl⟩
  have wa : wrap64 (ra : Int) = (ra : Int) := IntWalk.wrap64_in _ ⟨by omega, by omega⟩
  have wb : wrap64 ((bias : Int) + (ra : Int)) = (q : Int) := by rw [IntWalk.wrap64_in _ ⟨by omega, by omega⟩]; omega
  have HPQ : Hid (lowN (q : Int) = p) := Lib.hid (by rw [lowN_nat, hpp, hq])
  have HPL : Hid (p < 4294967296) := Lib.hid (by omega)
  obtain ⟨X, hX⟩ : ∃ X, X = w.alloc (.cells #[.int .u32 (ra : Int), .int .i64 24, .int .i64 sy, .int .u32 (add : Int)] 32) := ⟨_, rfl⟩
  have hcX : Chg [] w X := by rw [hX]; exact (Chg.refl _ _).alloc _
  have HCX := Lib.hid hcX
  have HSX := Lib.hid (hS.keep hcX (by simp))
  have HRX : Hid (X.row? w.heap.size = some #[.int .u32 (ra : Int), .int .i64 24, .int .i64 sy, .int .u32 (add : Int)]) := Lib.hid (by rw [hX]; exact row_alloc_at _ _ _ _ rfl)
  have c0 : X.cell? ⟨w.heap.size, 0, none⟩ = some (.int .u32 (ra : Int)) := by rw [row_cell HRX.out]; rfl
  have c1 : X.cell? ⟨w.heap.size, 1, none⟩ = some (.int .i64 24) := by rw [row_cell HRX.out]; rfl
  have c2 : X.cell? ⟨w.heap.size, 2, none⟩ = some (.int .i64 sy) := by rw [row_cell HRX.out]; rfl
  have HX := Lib.hid hX
  have HPP := Lib.hid hpp
  have HN := Lib.hid hn
  have HP := Lib.hid hp
  have HL := Lib.hid hlen
  have HM : Hid (mayN bias Ss ⟨ra, 24, sy, add⟩ = !(!withinN Ss p 4 || decide (p % 4 ≠ 0) || decide (False))) := Lib.hid (by
    unfold mayN
    rw [show sizeN 24 = 4 from by decide]
    simp only [← hpp]
    simp)
  clear hS hn hp hlen hb hra hq hpp hX hcX
  go_enter Try.func30, Try.ntmps30
  go_upto_region 1 with (fail)
  rw [← HX.out]
  clear HX
  go_wp2_with fail
  refine (low_any (q : Int) X).mono ?_
  rintro e w' ⟨rfl, hw⟩
  obtain rfl := hw.symm
  clear hw
  rw [HPQ.out]
  clear wa wb c0
  go_wp2_with fail
  refine (rwithin_any HSX.out HN.out HP.out p 4 HPL.out (by decide) HL.out).mono ?_
  rintro e w2 ⟨rfl, hc2⟩
  have HC2 := Lib.hid (HCX.out.trans hc2)
  have hr2 : w2.row? w.heap.size = some #[.int .u32 (ra : Int), .int .i64 24, .int .i64 sy, .int .u32 (add : Int)] := (hc2.row (row_lt HRX.out) (by simp)).trans HRX.out
  clear c1 c2
  have c1 : w2.cell? ⟨w.heap.size, 1, none⟩ = some (.int .i64 24) := by rw [row_cell hr2]; rfl
  have c2 : w2.cell? ⟨w.heap.size, 2, none⟩ = some (.int .i64 sy) := by rw [row_cell hr2]; rfl
  clear hr2 hc2
  obtain ⟨wi, hwi⟩ : ∃ wi, wi = withinN Ss p 4 := ⟨_, rfl⟩
  rw [← hwi] at HM ⊢
  clear hwi
  cases wi with
  | false =>
    go_wp2
    go_ret
    exact ⟨by rw [HM.out]; rfl, HC2.out⟩
  | true =>
    obtain ⟨m, hm⟩ : ∃ m, m = p % 4 := ⟨_, rfl⟩
    have e4 : (p : Int).tmod 4 = (m : Int) := by rw [Int.tmod_eq_emod_of_nonneg (by omega)]; omega
    have e5 : (p : Int) % 4 = (m : Int) := by omega
    rw [← hm] at HM
    clear hm
    by_cases h0 : m = 0
    · have HM2 : Hid (mayN bias Ss ⟨ra, 24, sy, add⟩ = true) := Lib.hid (by rw [HM.out]; simp [h0])
      clear HM
      subst h0
      go_wp2
      go_ret
      exact ⟨by rw [HM2.out]; rfl, HC2.out⟩
    · have HM2 : Hid (mayN bias Ss ⟨ra, 24, sy, add⟩ = false) := Lib.hid (by rw [HM.out]; simp [h0])
      have d0 : ((m : Int) == 0) = false := by rw [beq_eq_false_iff_ne]; omega
      clear HM
      go_wp2
      go_ret
      exact ⟨by rw [HM2.out]; rfl, HC2.out⟩
set_option maxRecDepth 100000 in
set_option maxHeartbeats 1600000 in
theorem rmay_25 {w : World} {Ss : List Sp} {P : Option Addr} {b o ns c : Nat} (hS : RsAt w b o Ss) (hn : Ss.length = ns) (hp : 0 < ns → P = some ⟨b, o, none⟩) (hlen : ns < 1000) (bias ra add : Nat) (sy : Int) (hb : bias < 4294967296) (hra : ra < 4294967296) :
    Calls Try.prog 30 #[.agg #[.int .u32 (ra : Int), .int .i64 25, .int .i64 sy, .int .u32 (add : Int)], .int .i64 (bias : Int), .slice P ns c] w fun e w' => e = .returned (.bool (mayN bias Ss ⟨ra, 25, sy, add⟩)) ∧ Chg [] w w' := by
  obtain ⟨q, hq⟩ : ∃ q, q = bias + ra := ⟨_, rfl⟩
  obtain ⟨p, hpp⟩ : ∃ p, p = (bias + ra) % 4294967296 := ⟨_, rfl⟩
  have wa : wrap64 (ra : Int) = (ra : Int) := IntWalk.wrap64_in _ ⟨by omega, by omega⟩
  have wb : wrap64 ((bias : Int) + (ra : Int)) = (q : Int) := by rw [IntWalk.wrap64_in _ ⟨by omega, by omega⟩]; omega
  have HPQ : Hid (lowN (q : Int) = p) := Lib.hid (by rw [lowN_nat, hpp, hq])
  have HPL : Hid (p < 4294967296) := Lib.hid (by omega)
  obtain ⟨X, hX⟩ : ∃ X, X = w.alloc (.cells #[.int .u32 (ra : Int), .int .i64 25, .int .i64 sy, .int .u32 (add : Int)] 32) := ⟨_, rfl⟩
  have hcX : Chg [] w X := by rw [hX]; exact (Chg.refl _ _).alloc _
  have HCX := Lib.hid hcX
  have HSX := Lib.hid (hS.keep hcX (by simp))
  have HRX : Hid (X.row? w.heap.size = some #[.int .u32 (ra : Int), .int .i64 25, .int .i64 sy, .int .u32 (add : Int)]) := Lib.hid (by rw [hX]; exact row_alloc_at _ _ _ _ rfl)
  have c0 : X.cell? ⟨w.heap.size, 0, none⟩ = some (.int .u32 (ra : Int)) := by rw [row_cell HRX.out]; rfl
  have c1 : X.cell? ⟨w.heap.size, 1, none⟩ = some (.int .i64 25) := by rw [row_cell HRX.out]; rfl
  have c2 : X.cell? ⟨w.heap.size, 2, none⟩ = some (.int .i64 sy) := by rw [row_cell HRX.out]; rfl
  have HX := Lib.hid hX
  have HPP := Lib.hid hpp
  have HN := Lib.hid hn
  have HP := Lib.hid hp
  have HL := Lib.hid hlen
  have HM : Hid (mayN bias Ss ⟨ra, 25, sy, add⟩ = !(!withinN Ss p 4 || decide (p % 4 ≠ 0) || decide (False))) := Lib.hid (by
    unfold mayN
    rw [show sizeN 25 = 4 from by decide]
    simp only [← hpp]
    simp)
  clear hS hn hp hlen hb hra hq hpp hX hcX
  go_enter Try.func30, Try.ntmps30
  go_upto_region 1 with (fail)
  rw [← HX.out]
  clear HX
  go_wp2_with fail
  refine (low_any (q : Int) X).mono ?_
  rintro e w' ⟨rfl, hw⟩
  obtain rfl := hw.symm
  clear hw
  rw [HPQ.out]
  clear wa wb c0
  go_wp2_with fail
  refine (rwithin_any HSX.out HN.out HP.out p 4 HPL.out (by decide) HL.out).mono ?_
  rintro e w2 ⟨rfl, hc2⟩
  have HC2 := Lib.hid (HCX.out.trans hc2)
  have hr2 : w2.row? w.heap.size = some #[.int .u32 (ra : Int), .int .i64 25, .int .i64 sy, .int .u32 (add : Int)] := (hc2.row (row_lt HRX.out) (by simp)).trans HRX.out
  clear c1 c2
  have c1 : w2.cell? ⟨w.heap.size, 1, none⟩ = some (.int .i64 25) := by rw [row_cell hr2]; rfl
  have c2 : w2.cell? ⟨w.heap.size, 2, none⟩ = some (.int .i64 sy) := by rw [row_cell hr2]; rfl
  clear hr2 hc2
  obtain ⟨wi, hwi⟩ : ∃ wi, wi = withinN Ss p 4 := ⟨_, rfl⟩
  rw [← hwi] at HM ⊢
  clear hwi
  cases wi with
  | false =>
    go_wp2
    go_ret
    exact ⟨by rw [HM.out]; rfl, HC2.out⟩
  | true =>
    obtain ⟨m, hm⟩ : ∃ m, m = p % 4 := ⟨_, rfl⟩
    have e4 : (p : Int).tmod 4 = (m : Int) := by rw [Int.tmod_eq_emod_of_nonneg (by omega)]; omega
    have e5 : (p : Int) % 4 = (m : Int) := by omega
    rw [← hm] at HM
    clear hm
    by_cases h0 : m = 0
    · have HM2 : Hid (mayN bias Ss ⟨ra, 25, sy, add⟩ = true) := Lib.hid (by rw [HM.out]; simp [h0])
      clear HM
      subst h0
      go_wp2
      go_ret
      exact ⟨by rw [HM2.out]; rfl, HC2.out⟩
    · have HM2 : Hid (mayN bias Ss ⟨ra, 25, sy, add⟩ = false) := Lib.hid (by rw [HM.out]; simp [h0])
      have d0 : ((m : Int) == 0) = false := by rw [beq_eq_false_iff_ne]; omega
      clear HM
      go_wp2
      go_ret
      exact ⟨by rw [HM2.out]; rfl, HC2.out⟩
set_option maxRecDepth 100000 in
set_option maxHeartbeats 1600000 in
theorem rmay_26 {w : World} {Ss : List Sp} {P : Option Addr} {b o ns c : Nat} (hS : RsAt w b o Ss) (hn : Ss.length = ns) (hp : 0 < ns → P = some ⟨b, o, none⟩) (hlen : ns < 1000) (bias ra add : Nat) (sy : Int) (hb : bias < 4294967296) (hra : ra < 4294967296) :
    Calls Try.prog 30 #[.agg #[.int .u32 (ra : Int), .int .i64 26, .int .i64 sy, .int .u32 (add : Int)], .int .i64 (bias : Int), .slice P ns c] w fun e w' => e = .returned (.bool (mayN bias Ss ⟨ra, 26, sy, add⟩)) ∧ Chg [] w w' := by
  obtain ⟨q, hq⟩ : ∃ q, q = bias + ra := ⟨_, rfl⟩
  obtain ⟨p, hpp⟩ : ∃ p, p = (bias + ra) % 4294967296 := ⟨_, rfl⟩
  have wa : wrap64 (ra : Int) = (ra : Int) := IntWalk.wrap64_in _ ⟨by omega, by omega⟩
  have wb : wrap64 ((bias : Int) + (ra : Int)) = (q : Int) := by rw [IntWalk.wrap64_in _ ⟨by omega, by omega⟩]; omega
  have HPQ : Hid (lowN (q : Int) = p) := Lib.hid (by rw [lowN_nat, hpp, hq])
  have HPL : Hid (p < 4294967296) := Lib.hid (by omega)
  obtain ⟨X, hX⟩ : ∃ X, X = w.alloc (.cells #[.int .u32 (ra : Int), .int .i64 26, .int .i64 sy, .int .u32 (add : Int)] 32) := ⟨_, rfl⟩
  have hcX : Chg [] w X := by rw [hX]; exact (Chg.refl _ _).alloc _
  have HCX := Lib.hid hcX
  have HSX := Lib.hid (hS.keep hcX (by simp))
  have HRX : Hid (X.row? w.heap.size = some #[.int .u32 (ra : Int), .int .i64 26, .int .i64 sy, .int .u32 (add : Int)]) := Lib.hid (by rw [hX]; exact row_alloc_at _ _ _ _ rfl)
  have c0 : X.cell? ⟨w.heap.size, 0, none⟩ = some (.int .u32 (ra : Int)) := by rw [row_cell HRX.out]; rfl
  have c1 : X.cell? ⟨w.heap.size, 1, none⟩ = some (.int .i64 26) := by rw [row_cell HRX.out]; rfl
  have c2 : X.cell? ⟨w.heap.size, 2, none⟩ = some (.int .i64 sy) := by rw [row_cell HRX.out]; rfl
  have HX := Lib.hid hX
  have HPP := Lib.hid hpp
  have HN := Lib.hid hn
  have HP := Lib.hid hp
  have HL := Lib.hid hlen
  have HM : Hid (mayN bias Ss ⟨ra, 26, sy, add⟩ = !(!withinN Ss p 4 || decide (p % 4 ≠ 0) || decide (False))) := Lib.hid (by
    unfold mayN
    rw [show sizeN 26 = 4 from by decide]
    simp only [← hpp]
    simp)
  clear hS hn hp hlen hb hra hq hpp hX hcX
  go_enter Try.func30, Try.ntmps30
  go_upto_region 1 with (fail)
  rw [← HX.out]
  clear HX
  go_wp2_with fail
  refine (low_any (q : Int) X).mono ?_
  rintro e w' ⟨rfl, hw⟩
  obtain rfl := hw.symm
  clear hw
  rw [HPQ.out]
  clear wa wb c0
  go_wp2_with fail
  refine (rwithin_any HSX.out HN.out HP.out p 4 HPL.out (by decide) HL.out).mono ?_
  rintro e w2 ⟨rfl, hc2⟩
  have HC2 := Lib.hid (HCX.out.trans hc2)
  have hr2 : w2.row? w.heap.size = some #[.int .u32 (ra : Int), .int .i64 26, .int .i64 sy, .int .u32 (add : Int)] := (hc2.row (row_lt HRX.out) (by simp)).trans HRX.out
  clear c1 c2
  have c1 : w2.cell? ⟨w.heap.size, 1, none⟩ = some (.int .i64 26) := by rw [row_cell hr2]; rfl
  have c2 : w2.cell? ⟨w.heap.size, 2, none⟩ = some (.int .i64 sy) := by rw [row_cell hr2]; rfl
  clear hr2 hc2
  obtain ⟨wi, hwi⟩ : ∃ wi, wi = withinN Ss p 4 := ⟨_, rfl⟩
  rw [← hwi] at HM ⊢
  clear hwi
  cases wi with
  | false =>
    go_wp2
    go_ret
    exact ⟨by rw [HM.out]; rfl, HC2.out⟩
  | true =>
    obtain ⟨m, hm⟩ : ∃ m, m = p % 4 := ⟨_, rfl⟩
    have e4 : (p : Int).tmod 4 = (m : Int) := by rw [Int.tmod_eq_emod_of_nonneg (by omega)]; omega
    have e5 : (p : Int) % 4 = (m : Int) := by omega
    rw [← hm] at HM
    clear hm
    by_cases h0 : m = 0
    · have HM2 : Hid (mayN bias Ss ⟨ra, 26, sy, add⟩ = true) := Lib.hid (by rw [HM.out]; simp [h0])
      clear HM
      subst h0
      go_wp2
      go_ret
      exact ⟨by rw [HM2.out]; rfl, HC2.out⟩
    · have HM2 : Hid (mayN bias Ss ⟨ra, 26, sy, add⟩ = false) := Lib.hid (by rw [HM.out]; simp [h0])
      have d0 : ((m : Int) == 0) = false := by rw [beq_eq_false_iff_ne]; omega
      clear HM
      go_wp2
      go_ret
      exact ⟨by rw [HM2.out]; rfl, HC2.out⟩
set_option maxRecDepth 100000 in
set_option maxHeartbeats 1600000 in
theorem rmay_27 {w : World} {Ss : List Sp} {P : Option Addr} {b o ns c : Nat} (hS : RsAt w b o Ss) (hn : Ss.length = ns) (hp : 0 < ns → P = some ⟨b, o, none⟩) (hlen : ns < 1000) (bias ra add : Nat) (sy : Int) (hb : bias < 4294967296) (hra : ra < 4294967296) :
    Calls Try.prog 30 #[.agg #[.int .u32 (ra : Int), .int .i64 27, .int .i64 sy, .int .u32 (add : Int)], .int .i64 (bias : Int), .slice P ns c] w fun e w' => e = .returned (.bool (mayN bias Ss ⟨ra, 27, sy, add⟩)) ∧ Chg [] w w' := by
  obtain ⟨q, hq⟩ : ∃ q, q = bias + ra := ⟨_, rfl⟩
  obtain ⟨p, hpp⟩ : ∃ p, p = (bias + ra) % 4294967296 := ⟨_, rfl⟩
  have wa : wrap64 (ra : Int) = (ra : Int) := IntWalk.wrap64_in _ ⟨by omega, by omega⟩
  have wb : wrap64 ((bias : Int) + (ra : Int)) = (q : Int) := by rw [IntWalk.wrap64_in _ ⟨by omega, by omega⟩]; omega
  have HPQ : Hid (lowN (q : Int) = p) := Lib.hid (by rw [lowN_nat, hpp, hq])
  have HPL : Hid (p < 4294967296) := Lib.hid (by omega)
  obtain ⟨X, hX⟩ : ∃ X, X = w.alloc (.cells #[.int .u32 (ra : Int), .int .i64 27, .int .i64 sy, .int .u32 (add : Int)] 32) := ⟨_, rfl⟩
  have hcX : Chg [] w X := by rw [hX]; exact (Chg.refl _ _).alloc _
  have HCX := Lib.hid hcX
  have HSX := Lib.hid (hS.keep hcX (by simp))
  have HRX : Hid (X.row? w.heap.size = some #[.int .u32 (ra : Int), .int .i64 27, .int .i64 sy, .int .u32 (add : Int)]) := Lib.hid (by rw [hX]; exact row_alloc_at _ _ _ _ rfl)
  have c0 : X.cell? ⟨w.heap.size, 0, none⟩ = some (.int .u32 (ra : Int)) := by rw [row_cell HRX.out]; rfl
  have c1 : X.cell? ⟨w.heap.size, 1, none⟩ = some (.int .i64 27) := by rw [row_cell HRX.out]; rfl
  have c2 : X.cell? ⟨w.heap.size, 2, none⟩ = some (.int .i64 sy) := by rw [row_cell HRX.out]; rfl
  have HX := Lib.hid hX
  have HPP := Lib.hid hpp
  have HN := Lib.hid hn
  have HP := Lib.hid hp
  have HL := Lib.hid hlen
  have HM : Hid (mayN bias Ss ⟨ra, 27, sy, add⟩ = !(!withinN Ss p 4 || decide (p % 4 ≠ 0) || decide (False))) := Lib.hid (by
    unfold mayN
    rw [show sizeN 27 = 4 from by decide]
    simp only [← hpp]
    simp)
  clear hS hn hp hlen hb hra hq hpp hX hcX
  go_enter Try.func30, Try.ntmps30
  go_upto_region 1 with (fail)
  rw [← HX.out]
  clear HX
  go_wp2_with fail
  refine (low_any (q : Int) X).mono ?_
  rintro e w' ⟨rfl, hw⟩
  obtain rfl := hw.symm
  clear hw
  rw [HPQ.out]
  clear wa wb c0
  go_wp2_with fail
  refine (rwithin_any HSX.out HN.out HP.out p 4 HPL.out (by decide) HL.out).mono ?_
  rintro e w2 ⟨rfl, hc2⟩
  have HC2 := Lib.hid (HCX.out.trans hc2)
  have hr2 : w2.row? w.heap.size = some #[.int .u32 (ra : Int), .int .i64 27, .int .i64 sy, .int .u32 (add : Int)] := (hc2.row (row_lt HRX.out) (by simp)).trans HRX.out
  clear c1 c2
  have c1 : w2.cell? ⟨w.heap.size, 1, none⟩ = some (.int .i64 27) := by rw [row_cell hr2]; rfl
  have c2 : w2.cell? ⟨w.heap.size, 2, none⟩ = some (.int .i64 sy) := by rw [row_cell hr2]; rfl
  clear hr2 hc2
  obtain ⟨wi, hwi⟩ : ∃ wi, wi = withinN Ss p 4 := ⟨_, rfl⟩
  rw [← hwi] at HM ⊢
  clear hwi
  cases wi with
  | false =>
    go_wp2
    go_ret
    exact ⟨by rw [HM.out]; rfl, HC2.out⟩
  | true =>
    obtain ⟨m, hm⟩ : ∃ m, m = p % 4 := ⟨_, rfl⟩
    have e4 : (p : Int).tmod 4 = (m : Int) := by rw [Int.tmod_eq_emod_of_nonneg (by omega)]; omega
    have e5 : (p : Int) % 4 = (m : Int) := by omega
    rw [← hm] at HM
    clear hm
    by_cases h0 : m = 0
    · have HM2 : Hid (mayN bias Ss ⟨ra, 27, sy, add⟩ = true) := Lib.hid (by rw [HM.out]; simp [h0])
      clear HM
      subst h0
      go_wp2
      go_ret
      exact ⟨by rw [HM2.out]; rfl, HC2.out⟩
    · have HM2 : Hid (mayN bias Ss ⟨ra, 27, sy, add⟩ = false) := Lib.hid (by rw [HM.out]; simp [h0])
      have d0 : ((m : Int) == 0) = false := by rw [beq_eq_false_iff_ne]; omega
      clear HM
      go_wp2
      go_ret
      exact ⟨by rw [HM2.out]; rfl, HC2.out⟩
set_option maxRecDepth 100000 in
set_option maxHeartbeats 1600000 in
theorem rmay_28 {w : World} {Ss : List Sp} {P : Option Addr} {b o ns c : Nat} (hS : RsAt w b o Ss) (hn : Ss.length = ns) (hp : 0 < ns → P = some ⟨b, o, none⟩) (hlen : ns < 1000) (bias ra add : Nat) (sy : Int) (hb : bias < 4294967296) (hra : ra < 4294967296) :
    Calls Try.prog 30 #[.agg #[.int .u32 (ra : Int), .int .i64 28, .int .i64 sy, .int .u32 (add : Int)], .int .i64 (bias : Int), .slice P ns c] w fun e w' => e = .returned (.bool (mayN bias Ss ⟨ra, 28, sy, add⟩)) ∧ Chg [] w w' := by
  obtain ⟨q, hq⟩ : ∃ q, q = bias + ra := ⟨_, rfl⟩
  obtain ⟨p, hpp⟩ : ∃ p, p = (bias + ra) % 4294967296 := ⟨_, rfl⟩
  have wa : wrap64 (ra : Int) = (ra : Int) := IntWalk.wrap64_in _ ⟨by omega, by omega⟩
  have wb : wrap64 ((bias : Int) + (ra : Int)) = (q : Int) := by rw [IntWalk.wrap64_in _ ⟨by omega, by omega⟩]; omega
  have HPQ : Hid (lowN (q : Int) = p) := Lib.hid (by rw [lowN_nat, hpp, hq])
  have HPL : Hid (p < 4294967296) := Lib.hid (by omega)
  obtain ⟨X, hX⟩ : ∃ X, X = w.alloc (.cells #[.int .u32 (ra : Int), .int .i64 28, .int .i64 sy, .int .u32 (add : Int)] 32) := ⟨_, rfl⟩
  have hcX : Chg [] w X := by rw [hX]; exact (Chg.refl _ _).alloc _
  have HCX := Lib.hid hcX
  have HSX := Lib.hid (hS.keep hcX (by simp))
  have HRX : Hid (X.row? w.heap.size = some #[.int .u32 (ra : Int), .int .i64 28, .int .i64 sy, .int .u32 (add : Int)]) := Lib.hid (by rw [hX]; exact row_alloc_at _ _ _ _ rfl)
  have c0 : X.cell? ⟨w.heap.size, 0, none⟩ = some (.int .u32 (ra : Int)) := by rw [row_cell HRX.out]; rfl
  have c1 : X.cell? ⟨w.heap.size, 1, none⟩ = some (.int .i64 28) := by rw [row_cell HRX.out]; rfl
  have c2 : X.cell? ⟨w.heap.size, 2, none⟩ = some (.int .i64 sy) := by rw [row_cell HRX.out]; rfl
  have HX := Lib.hid hX
  have HPP := Lib.hid hpp
  have HN := Lib.hid hn
  have HP := Lib.hid hp
  have HL := Lib.hid hlen
  have HM : Hid (mayN bias Ss ⟨ra, 28, sy, add⟩ = !(!withinN Ss p 4 || decide (p % 4 ≠ 0) || decide (False))) := Lib.hid (by
    unfold mayN
    rw [show sizeN 28 = 4 from by decide]
    simp only [← hpp]
    simp)
  clear hS hn hp hlen hb hra hq hpp hX hcX
  go_enter Try.func30, Try.ntmps30
  go_upto_region 1 with (fail)
  rw [← HX.out]
  clear HX
  go_wp2_with fail
  refine (low_any (q : Int) X).mono ?_
  rintro e w' ⟨rfl, hw⟩
  obtain rfl := hw.symm
  clear hw
  rw [HPQ.out]
  clear wa wb c0
  go_wp2_with fail
  refine (rwithin_any HSX.out HN.out HP.out p 4 HPL.out (by decide) HL.out).mono ?_
  rintro e w2 ⟨rfl, hc2⟩
  have HC2 := Lib.hid (HCX.out.trans hc2)
  have hr2 : w2.row? w.heap.size = some #[.int .u32 (ra : Int), .int .i64 28, .int .i64 sy, .int .u32 (add : Int)] := (hc2.row (row_lt HRX.out) (by simp)).trans HRX.out
  clear c1 c2
  have c1 : w2.cell? ⟨w.heap.size, 1, none⟩ = some (.int .i64 28) := by rw [row_cell hr2]; rfl
  have c2 : w2.cell? ⟨w.heap.size, 2, none⟩ = some (.int .i64 sy) := by rw [row_cell hr2]; rfl
  clear hr2 hc2
  obtain ⟨wi, hwi⟩ : ∃ wi, wi = withinN Ss p 4 := ⟨_, rfl⟩
  rw [← hwi] at HM ⊢
  clear hwi
  cases wi with
  | false =>
    go_wp2
    go_ret
    exact ⟨by rw [HM.out]; rfl, HC2.out⟩
  | true =>
    obtain ⟨m, hm⟩ : ∃ m, m = p % 4 := ⟨_, rfl⟩
    have e4 : (p : Int).tmod 4 = (m : Int) := by rw [Int.tmod_eq_emod_of_nonneg (by omega)]; omega
    have e5 : (p : Int) % 4 = (m : Int) := by omega
    rw [← hm] at HM
    clear hm
    by_cases h0 : m = 0
    · have HM2 : Hid (mayN bias Ss ⟨ra, 28, sy, add⟩ = true) := Lib.hid (by rw [HM.out]; simp [h0])
      clear HM
      subst h0
      go_wp2
      go_ret
      exact ⟨by rw [HM2.out]; rfl, HC2.out⟩
    · have HM2 : Hid (mayN bias Ss ⟨ra, 28, sy, add⟩ = false) := Lib.hid (by rw [HM.out]; simp [h0])
      have d0 : ((m : Int) == 0) = false := by rw [beq_eq_false_iff_ne]; omega
      clear HM
      go_wp2
      go_ret
      exact ⟨by rw [HM2.out]; rfl, HC2.out⟩
set_option maxRecDepth 100000 in
set_option maxHeartbeats 1600000 in
theorem rmay_bad {w : World} {Ss : List Sp} {P : Option Addr} {b o ns c : Nat} (hS : RsAt w b o Ss) (hn : Ss.length = ns) (hp : 0 < ns → P = some ⟨b, o, none⟩) (hlen : ns < 1000) (bias ra add : Nat) (sy ty : Int) (hb : bias < 4294967296) (hra : ra < 4294967296) (hty : sizeN ty = 0) :
    Calls Try.prog 30 #[.agg #[.int .u32 (ra : Int), .int .i64 ty, .int .i64 sy, .int .u32 (add : Int)], .int .i64 (bias : Int), .slice P ns c] w fun e w' => e = .returned (.bool (mayN bias Ss ⟨ra, ty, sy, add⟩)) ∧ Chg [] w w' := by
  obtain ⟨q, hq⟩ : ∃ q, q = bias + ra := ⟨_, rfl⟩
  obtain ⟨p, hpp⟩ : ∃ p, p = (bias + ra) % 4294967296 := ⟨_, rfl⟩
  have wa : wrap64 (ra : Int) = (ra : Int) := IntWalk.wrap64_in _ ⟨by omega, by omega⟩
  have wb : wrap64 ((bias : Int) + (ra : Int)) = (q : Int) := by rw [IntWalk.wrap64_in _ ⟨by omega, by omega⟩]; omega
  have HPQ : Hid (lowN (q : Int) = p) := Lib.hid (by rw [lowN_nat, hpp, hq])
  have HPL : Hid (p < 4294967296) := Lib.hid (by omega)
  obtain ⟨X, hX⟩ : ∃ X, X = w.alloc (.cells #[.int .u32 (ra : Int), .int .i64 ty, .int .i64 sy, .int .u32 (add : Int)] 32) := ⟨_, rfl⟩
  have hcX : Chg [] w X := by rw [hX]; exact (Chg.refl _ _).alloc _
  have HCX := Lib.hid hcX
  have HSX := Lib.hid (hS.keep hcX (by simp))
  have HRX : Hid (X.row? w.heap.size = some #[.int .u32 (ra : Int), .int .i64 ty, .int .i64 sy, .int .u32 (add : Int)]) := Lib.hid (by rw [hX]; exact row_alloc_at _ _ _ _ rfl)
  have c0 : X.cell? ⟨w.heap.size, 0, none⟩ = some (.int .u32 (ra : Int)) := by rw [row_cell HRX.out]; rfl
  have c1 : X.cell? ⟨w.heap.size, 1, none⟩ = some (.int .i64 ty) := by rw [row_cell HRX.out]; rfl
  have c2 : X.cell? ⟨w.heap.size, 2, none⟩ = some (.int .i64 sy) := by rw [row_cell HRX.out]; rfl
  have HX := Lib.hid hX
  have HPP := Lib.hid hpp
  have HN := Lib.hid hn
  have HP := Lib.hid hp
  have HL := Lib.hid hlen
  have HM : Hid (mayN bias Ss ⟨ra, ty, sy, add⟩ = false) := Lib.hid (by unfold mayN; simp [hty])
  have n1 : ¬ ty = 1 := by intro h; subst h; exact absurd hty (by decide)
  have n3 : ¬ ty = 3 := by intro h; subst h; exact absurd hty (by decide)
  have n16 : ¬ ty = 16 := by intro h; subst h; exact absurd hty (by decide)
  have n17 : ¬ ty = 17 := by intro h; subst h; exact absurd hty (by decide)
  have n18 : ¬ ty = 18 := by intro h; subst h; exact absurd hty (by decide)
  have n19 : ¬ ty = 19 := by intro h; subst h; exact absurd hty (by decide)
  have n23 : ¬ ty = 23 := by intro h; subst h; exact absurd hty (by decide)
  have n24 : ¬ ty = 24 := by intro h; subst h; exact absurd hty (by decide)
  have n25 : ¬ ty = 25 := by intro h; subst h; exact absurd hty (by decide)
  have n26 : ¬ ty = 26 := by intro h; subst h; exact absurd hty (by decide)
  have n27 : ¬ ty = 27 := by intro h; subst h; exact absurd hty (by decide)
  have n28 : ¬ ty = 28 := by intro h; subst h; exact absurd hty (by decide)
  clear hty hS hn hp hlen hb hra hq hpp hX hcX
  go_enter Try.func30, Try.ntmps30
  go_upto_region 1 with (fail)
  rw [← HX.out]
  clear HX
  go_wp2_with fail
  refine (low_any (q : Int) X).mono ?_
  rintro e w' ⟨rfl, hw⟩
  obtain rfl := hw.symm
  clear hw
  rw [HPQ.out]
  clear wa wb c0
  go_wp2
  go_ret
  exact ⟨by rw [HM.out]; rfl, HCX.out⟩
theorem rmay_any {w : World} {Ss : List Sp} {P : Option Addr} {b o ns c : Nat} (hS : RsAt w b o Ss) (hn : Ss.length = ns) (hp : 0 < ns → P = some ⟨b, o, none⟩) (hlen : ns < 1000) (bias : Nat) (r : Rl) (hb : bias < 4294967296) (hra : r.at_ < 4294967296) :
    Calls Try.prog 30 #[.agg (RlC r).toArray, .int .i64 (bias : Int), .slice P ns c] w fun e w' => e = .returned (.bool (mayN bias Ss r)) ∧ Chg [] w w' := by
  obtain ⟨ra, ty, sy, add⟩ := r
  by_cases hty : sizeN ty = 0
  · exact rmay_bad hS hn hp hlen bias ra add sy ty hb hra hty
  · have h : ty = 18 ∨ ty = 19 ∨ ty = 1 ∨ ty = 3 ∨ ty = 16 ∨ ty = 17 ∨ ty = 23 ∨ ty = 24 ∨ ty = 25 ∨ ty = 26 ∨ ty = 27 ∨ ty = 28 := by
      unfold sizeN at hty
      by_cases h1 : ty = 18 ∨ ty = 19
      · omega
      · rw [if_neg h1] at hty
        by_cases h2 : ty = 1 ∨ ty = 3 ∨ ty = 16 ∨ ty = 17 ∨ ty = 23 ∨ ty = 24 ∨ ty = 25 ∨ ty = 26 ∨ ty = 27 ∨ ty = 28
        · omega
        · rw [if_neg h2] at hty
          exact absurd rfl hty
    clear hty
    rcases h with rfl | rfl | rfl | rfl | rfl | rfl | rfl | rfl | rfl | rfl | rfl | rfl
    · exact rmay_18 hS hn hp hlen bias ra add sy hb hra
    · exact rmay_19 hS hn hp hlen bias ra add sy hb hra
    · exact rmay_1 hS hn hp hlen bias ra add sy hb hra
    · exact rmay_3 hS hn hp hlen bias ra add sy hb hra
    · exact rmay_16 hS hn hp hlen bias ra add sy hb hra
    · exact rmay_17 hS hn hp hlen bias ra add sy hb hra
    · exact rmay_23 hS hn hp hlen bias ra add sy hb hra
    · exact rmay_24 hS hn hp hlen bias ra add sy hb hra
    · exact rmay_25 hS hn hp hlen bias ra add sy hb hra
    · exact rmay_26 hS hn hp hlen bias ra add sy hb hra
    · exact rmay_27 hS hn hp hlen bias ra add sy hb hra
    · exact rmay_28 hS hn hp hlen bias ra add sy hb hra
end Go.Proofs.L
