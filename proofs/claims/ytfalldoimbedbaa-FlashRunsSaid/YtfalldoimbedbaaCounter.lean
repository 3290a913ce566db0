/- Proved here: lemmas and contracts (Counter) for the laws of this seat, for all values of the stated types; no further condition. -/
import Derived.Test.YtfalldoimbedbaaNew
open Go Go.RowKit Go.Lib
namespace Go.Proofs.L
/-- does slot k of sector s count? -/
def good (f : Nat → Nat) (s k : Nat) : Bool := decide (f (16 * s + 3 * k + 2) = 0) && decide (f (16 * s + 3 * k) = 4294967295 - f (16 * s + 3 * k + 1))
def fresh (f : Nat → Nat) (s k : Nat) : Bool := decide (f (16 * s + 3 * k) = 4294967295) && decide (f (16 * s + 3 * k + 1) = 4294967295) && decide (f (16 * s + 3 * k + 2) = 4294967295)
theorem slot_nums (s k : Nat) (hs : s < 2) (hk : k < 5) : ∃ z y q q1 q2 : Nat, q = 16 * s + 3 * k ∧ q1 = q + 1 ∧ q2 = q + 2 ∧ q2 < 32 ∧ wrap64 ((s : Int) * 16) = (z : Int) ∧ IntKind.i64.wrap ((s : Int) * 16) = (z : Int) ∧ wrap64 (3 * (k : Int)) = (y : Int) ∧ IntKind.i64.wrap (3 * (k : Int)) = (y : Int) ∧
    wrap64 ((z : Int) + (y : Int)) = (q : Int) ∧ IntKind.i64.wrap ((z : Int) + (y : Int)) = (q : Int) ∧ wrap64 ((q : Int) + 1) = (q1 : Int) ∧ IntKind.i64.wrap ((q : Int) + 1) = (q1 : Int) ∧ wrap64 ((q : Int) + 2) = (q2 : Int) ∧ IntKind.i64.wrap ((q : Int) + 2) = (q2 : Int) := by
  have a1 : wrap64 ((s : Int) * 16) = ((16 * s : Nat) : Int) := by rw [IntWalk.wrap64_in _ ⟨by omega, by omega⟩]; omega
  have a2 : wrap64 (3 * (k : Int)) = ((3 * k : Nat) : Int) := by rw [IntWalk.wrap64_in _ ⟨by omega, by omega⟩]; omega
  have a3 : wrap64 (((16 * s : Nat) : Int) + ((3 * k : Nat) : Int)) = ((16 * s + 3 * k : Nat) : Int) := by rw [IntWalk.wrap64_in _ ⟨by omega, by omega⟩]; omega
  have a4 : wrap64 (((16 * s + 3 * k : Nat) : Int) + 1) = ((16 * s + 3 * k + 1 : Nat) : Int) := by rw [IntWalk.wrap64_in _ ⟨by omega, by omega⟩]; omega
  have a5 : wrap64 (((16 * s + 3 * k : Nat) : Int) + 2) = ((16 * s + 3 * k + 2 : Nat) : Int) := by rw [IntWalk.wrap64_in _ ⟨by omega, by omega⟩]; omega
  exact ⟨16 * s, 3 * k, 16 * s + 3 * k, 16 * s + 3 * k + 1, 16 * s + 3 * k + 2, rfl, rfl, rfl, by omega, a1, by rw [i64w]; exact a1, a2, by rw [i64w]; exact a2, a3, by rw [i64w]; exact a3, a4, by rw [i64w]; exact a4, a5, by rw [i64w]; exact a5⟩
theorem ret_b {a b : Bool} (h : a = b) : Ending.returned (.bool a) = .returned (.bool b) := by rw [h]
theorem good_in {w b S} (h : Fl w b S) (hS : S.Ok) (s k : Nat) (hs : s < 2) (hk : k < 5) : Calls Try.prog 28 #[.pointer (some ⟨b, 0, none⟩), .int .i64 s, .int .i64 k] w fun e w' => e = .returned (.bool (good S.f s k)) ∧ Chg [] w w' := by
  obtain ⟨z, y, q, q1, q2, hq, hq1, hq2, hlt, e1, e2, e3, e4, e5, e6, e7, e8, e9, e10⟩ := slot_nums s k hs hk
  have c0 := h.ci q (by omega)
  have c1 := h.ci q1 (by omega)
  have c2 := h.ci q2 (by omega)
  have g : good S.f s k = (decide (S.f q2 = 0) && decide (S.f q = 4294967295 - S.f q1)) := by unfold good; rw [hq2, hq1, hq]
  have n1 := not32 (S.f q1) (hS.f q1)
  have i0 : (q : Int) < 32 := by omega
  have i1 : (q1 : Int) < 32 := by omega
  have i2 : (q2 : Int) < 32 := by omega
  rw [g]
  obtain ⟨x0, hx0⟩ : ∃ x, x = S.f q := ⟨_, rfl⟩
  obtain ⟨x1, hx1⟩ : ∃ x, x = S.f q1 := ⟨_, rfl⟩
  obtain ⟨x2, hx2⟩ : ∃ x, x = S.f q2 := ⟨_, rfl⟩
  rw [← hx0] at c0 ⊢
  rw [← hx1] at c1 n1 ⊢
  rw [← hx2] at c2 ⊢
  clear h hS g hq hq1 hq2 hx0 hx1 hx2 hlt hs hk
  by_cases h2 : x2 = 0
  · subst h2
    have c2' : w.cell? ⟨b, q2, none⟩ = some (.int .u32 0) := c2
    clear c2
    go_enter Try.func28, Try.ntmps28
    go_wp2_with fail
    go_quiet (fail)
    go_wp2
    go_ret
    exact ⟨ret_b (by rw [Bool.eq_iff_iff]; simp; try omega), (Chg.refl _ _).drewN _⟩
  · have d2 : ((x2 : Int) == 0) = false := by simpa using h2
    have d3 : decide ((x2 : Int) = 0) = false := by simpa using h2
    go_enter Try.func28, Try.ntmps28
    go_wp2_with fail
    go_quiet (fail)
    go_wp2
    go_ret
    exact ⟨ret_b (by rw [Bool.eq_iff_iff]; simp; try omega), by first | exact (Chg.refl _ _).drewN _ | exact (Chg.refl _ _).drew⟩
theorem fresh_in {w b S} (h : Fl w b S) (s k : Nat) (hs : s < 2) (hk : k < 5) : Calls Try.prog 33 #[.pointer (some ⟨b, 0, none⟩), .int .i64 s, .int .i64 k] w fun e w' => e = .returned (.bool (fresh S.f s k)) ∧ Chg [] w w' := by
  obtain ⟨z, y, q, q1, q2, hq, hq1, hq2, hlt, e1, e2, e3, e4, e5, e6, e7, e8, e9, e10⟩ := slot_nums s k hs hk
  have c0 := h.ci q (by omega)
  have c1 := h.ci q1 (by omega)
  have c2 := h.ci q2 (by omega)
  have g : fresh S.f s k = (decide (S.f q = 4294967295) && decide (S.f q1 = 4294967295) && decide (S.f q2 = 4294967295)) := by unfold fresh; rw [hq2, hq1, hq]
  have i0 : (q : Int) < 32 := by omega
  have i1 : (q1 : Int) < 32 := by omega
  have i2 : (q2 : Int) < 32 := by omega
  rw [g]
  obtain ⟨x0, hx0⟩ : ∃ x, x = S.f q := ⟨_, rfl⟩
  obtain ⟨x1, hx1⟩ : ∃ x, x = S.f q1 := ⟨_, rfl⟩
  obtain ⟨x2, hx2⟩ : ∃ x, x = S.f q2 := ⟨_, rfl⟩
  rw [← hx0] at c0 ⊢
  rw [← hx1] at c1 ⊢
  rw [← hx2] at c2 ⊢
  clear h g hq hq1 hq2 hx0 hx1 hx2 hlt hs hk
  by_cases h0 : x0 = 4294967295
  · have d0 : ((x0 : Int) == 4294967295) = true := by rw [beq_iff_eq]; omega
    have d0' : ((x0 : Int) = 4294967295) = True := by simp; omega
    by_cases h1 : x1 = 4294967295
    · have d1 : ((x1 : Int) == 4294967295) = true := by rw [beq_iff_eq]; omega
      have d1' : ((x1 : Int) = 4294967295) = True := by simp; omega
      go_enter Try.func33, Try.ntmps33
      go_wp2
      go_ret
      exact ⟨ret_b (by rw [Bool.eq_iff_iff]; simp [h0, h1]; try omega), Chg.refl _ _⟩
    · have d1 : ((x1 : Int) == 4294967295) = false := by rw [beq_eq_false_iff_ne]; omega
      have d1' : ((x1 : Int) = 4294967295) = False := by simp; omega
      go_enter Try.func33, Try.ntmps33
      go_wp2
      go_ret
      exact ⟨ret_b (by rw [Bool.eq_iff_iff]; simp [h0, h1]; try omega), Chg.refl _ _⟩
  · have d0 : ((x0 : Int) == 4294967295) = false := by rw [beq_eq_false_iff_ne]; omega
    have d0' : ((x0 : Int) = 4294967295) = False := by simp; omega
    go_enter Try.func33, Try.ntmps33
    go_wp2
    go_ret
    exact ⟨ret_b (by rw [Bool.eq_iff_iff]; simp [h0]; try omega), Chg.refl _ _⟩
/-- the counter, slot by slot -/
def cnt (f : Nat → Nat) : Nat → Nat
  | 0 => 0
  | i + 1 => if good f (i / 5) (i % 5) then max (cnt f i) (f (16 * (i / 5) + 3 * (i % 5))) else cnt f i
def counter (f : Nat → Nat) : Nat := cnt f 10
theorem cnt_lt {f : Nat → Nat} (h : ∀ i, f i < 4294967296) : ∀ i, cnt f i < 4294967296
  | 0 => by unfold cnt; decide
  | i + 1 => by
    unfold cnt
    have := cnt_lt h i
    have := h (16 * (i / 5) + 3 * (i % 5))
    split <;> omega
theorem counter_nil (w : World) : Calls Try.prog 15 #[.pointer none] w fun e w' => e = .returned (.int .u32 0) ∧ w' = w := by
  go_enter Try.func15, Try.ntmps15
  go_wp2
  go_ret
  exact ⟨rfl, rfl⟩
theorem counter_in {w b S} (h : Fl w b S) (hS : S.Ok) : Calls Try.prog 15 #[.pointer (some ⟨b, 0, none⟩)] w fun e w' => e = .returned (.int .u32 (counter S.f)) ∧ Chg [] w w' := by
  have H := Lib.hid h
  have HS := Lib.hid hS
  clear h hS
  go_enter Try.func15, Try.ntmps15
  go_wp2_with fail
  go_loopw [8, 3] (fun i o wr => ∃ s : Nat, s ≤ 2 ∧ i = .int .i64 s ∧ o = .int .u32 (cnt S.f (5 * s) : Nat) ∧ Chg [] w wr) (fun i _ _ => 2 - (intOf i).toNat)
  case atStart => exact ⟨0, by omega, rfl, rfl, Chg.refl _ _⟩
  case round =>
    obtain ⟨s, hs, rfl, rfl, hC⟩ := hrel
    obtain ⟨wo, rfl⟩ : ∃ wo : World, wo = wr := ⟨_, rfl⟩
    have HC := Lib.hid hC
    clear hC
    by_cases hs2 : s < 2
    · have ds : decide ((s : Int) < 2) = true := by simp; omega
      go_wp2_with fail
      go_loopw [11, 3] (fun i o wr => ∃ k : Nat, k ≤ 5 ∧ i = .int .i64 k ∧ o = .int .u32 (cnt S.f (5 * s + k) : Nat) ∧ Chg [] w wr) (fun i _ _ => 5 - (intOf i).toNat)
      case atStart => exact ⟨0, by omega, rfl, rfl, HC.out⟩
      case round =>
        obtain ⟨k, hk, rfl, rfl, hC⟩ := hrel
        obtain ⟨wi, rfl⟩ : ∃ wi : World, wi = wr := ⟨_, rfl⟩
        have HCi := Lib.hid hC
        clear hC
        by_cases hk2 : k < 5
        · have dk : decide ((k : Int) < 5) = true := by simp; omega
          have hG := good_in (H.out.keep HCi.out (by simp)) HS.out s k hs2 hk2
          have hcn : cnt S.f (5 * s + k + 1) = if good S.f s k then max (cnt S.f (5 * s + k)) (S.f (16 * s + 3 * k)) else cnt S.f (5 * s + k) := by
            rw [cnt, show (5 * s + k) / 5 = s by omega, show (5 * s + k) % 5 = k by omega]
          have HG := Lib.hid hG
          have HN := Lib.hid hcn
          clear hG hcn
          go_wp2_with fail
          refine HG.out.mono ?_
          rintro e w2 ⟨rfl, hC2⟩
          have hF2 := H.out.keep (HCi.out.trans hC2) (by simp)
          have HC2 : Hid (Chg [] w w2) := Lib.hid (HCi.out.trans hC2)
          obtain ⟨z, y, q, q1, q2, hq, hq1, hq2, hlt, e1, e2, e3, e4, e5, e6, e7, e8, e9, e10⟩ := slot_nums s k hs2 hk2
          have c0 := hF2.ci q (by omega)
          have i0 : (q : Int) < 32 := by omega
          rw [← hq] at HN
          obtain ⟨x, hx⟩ : ∃ x, x = S.f q := ⟨_, rfl⟩
          rw [← hx] at c0 HN
          clear hF2 hC2 hq hq1 hq2 e7 e8 e9 e10 hx hlt
          cases hg : good S.f s k with
          | true =>
            rw [hg] at HN
            go_wp2
            refine ⟨⟨k + 1, by omega, by go_num, ?_, HC2.out⟩, by simp only [intOf]; omega⟩
            rw [← Nat.add_assoc, HN.out, if_pos trivial]
            refine congrArg (Value.int .u32) ?_
            split <;> omega
          | false =>
            rw [hg] at HN
            go_wp2
            go_roundw
            case rel => exact ⟨k + 1, by omega, by go_num, by rw [← Nat.add_assoc, HN.out]; simp, HC2.out⟩
            case measure => simp [intOf]; omega
        · obtain rfl : k = 5 := by omega
          go_wp2_with fail
          go_roundw
          case rel => exact ⟨s + 1, by omega, by go_num, rfl, HCi.out⟩
          case measure => simp [intOf]; omega
    · obtain rfl : s = 2 := by omega
      go_wp2
      go_ret
      exact ⟨rfl, HC.out⟩
/-- the first slot from which on all are erased, of the first k -/
def rm (f : Nat → Nat) (s : Nat) : Nat → Nat
  | 0 => 0
  | k + 1 => if fresh f s k then rm f s k else k + 1
def room (f : Nat → Nat) (s : Nat) : Nat := rm f s 5
theorem rm_le (f s) : ∀ k, rm f s k ≤ k
  | 0 => Nat.le_refl _
  | k + 1 => by
    have := rm_le f s k
    unfold rm
    split <;> omega
theorem room_in {w b S} (h : Fl w b S) (s : Nat) (hs : s < 2) : Calls Try.prog 26 #[.pointer (some ⟨b, 0, none⟩), .int .i64 s] w fun e w' => e = .returned (.int .i64 (room S.f s)) ∧ Chg [] w w' := by
  have H := Lib.hid h
  clear h
  go_enter Try.func26, Try.ntmps26
  go_wp2_with fail
  go_loopw [5] (fun i wr => ∃ k : Nat, k ≤ 5 ∧ i = .int .i64 k ∧ rm S.f s k = rm S.f s 5 ∧ Chg [] w wr) (fun i _ => (intOf i).toNat)
  case atStart => exact ⟨5, by omega, rfl, rfl, Chg.refl _ _⟩
  case round =>
    obtain ⟨k, hk, rfl, hrm, hC⟩ := hrel
    obtain ⟨wo, rfl⟩ : ∃ wo : World, wo = wr := ⟨_, rfl⟩
    have HC := Lib.hid hC
    have HR := Lib.hid hrm
    clear hC hrm
    rcases k with _ | k
    · have hr : room S.f s = 0 := by unfold room; rw [← HR.out]; rfl
      go_wp2
      go_ret
      exact ⟨by rw [hr]; rfl, HC.out⟩
    · have d : decide (((k + 1 : Nat) : Int) > 0) = true := decide_eq_true (by omega)
      have d2 : decide ((0 : Int) < ((k + 1 : Nat) : Int)) = true := decide_eq_true (by omega)
      have d3 : decide ((0 : Int) < (k : Int) + 1) = true := decide_eq_true (by omega)
      have d4 : decide ((k : Int) + 1 > 0) = true := decide_eq_true (by omega)
      have w1 : wrap64 (((k + 1 : Nat) : Int) - 1) = (k : Int) := by rw [IntWalk.wrap64_in _ ⟨by omega, by omega⟩]; omega
      have w2 : wrap64 ((k : Int) + 1 - 1) = (k : Int) := by rw [IntWalk.wrap64_in _ ⟨by omega, by omega⟩]; omega
      have HG := Lib.hid (fresh_in (H.out.keep HC.out (by simp)) s k hs (by omega))
      go_wp2_with fail
      refine HG.out.mono ?_
      rintro e w2 ⟨rfl, hC2⟩
      have HC2 : Hid (Chg [] w w2) := Lib.hid (HC.out.trans hC2)
      clear hC2
      cases hf : fresh S.f s k with
      | true =>
        go_wp2
        refine ⟨⟨k, by omega, by first | rfl | go_num, ?_, HC2.out⟩, by simp only [intOf]; omega⟩
        rw [← HR.out, rm, if_pos hf]
      | false =>
        have hr : room S.f s = k + 1 := by unfold room; rw [← HR.out, rm, hf]; rfl
        go_wp2
        go_ret
        exact ⟨by rw [hr]; rfl, HC2.out⟩
/-- is there a slot of the second sector with the greatest number? -/
def newAt (f : Nat → Nat) (k : Nat) : Bool := good f 1 k && decide (f (16 + 3 * k) = counter f)
def newest (f : Nat → Nat) : Nat := if (newAt f 0 || newAt f 1 || newAt f 2 || newAt f 3 || newAt f 4) then 1 else 0
theorem newest_lt (f) : newest f < 2 := by unfold newest; split <;> omega
theorem newest_in {w b S} (h : Fl w b S) (hS : S.Ok) : Calls Try.prog 25 #[.pointer (some ⟨b, 0, none⟩)] w fun e w' => e = .returned (.int .i64 (newest S.f)) ∧ Chg [] w w' := by
  have H := Lib.hid h
  have HS := Lib.hid hS
  have HK := Lib.hid (counter_in h hS)
  clear h hS
  go_enter Try.func25, Try.ntmps25
  go_wp2_with fail
  refine HK.out.mono ?_
  rintro e w0 ⟨rfl, hC0⟩
  have HC0 := Lib.hid hC0
  clear HK hC0
  go_wp2_with fail
  go_loopw [7] (fun i wr => ∃ k : Nat, k ≤ 5 ∧ i = .int .i64 k ∧ (∀ j, j < k → newAt S.f j = false) ∧ Chg [] w wr) (fun i _ => 5 - (intOf i).toNat)
  case atStart => exact ⟨0, by omega, rfl, fun j hj => by omega, HC0.out⟩
  case round =>
    obtain ⟨k, hk, rfl, hn, hC⟩ := hrel
    obtain ⟨wo, rfl⟩ : ∃ wo : World, wo = wr := ⟨_, rfl⟩
    have HC := Lib.hid hC
    have HN := Lib.hid hn
    clear hC hn
    by_cases hk5 : k < 5
    · have dk : decide ((k : Int) < 5) = true := by simp; omega
      have HG : Hid (Calls Try.prog 28 #[.pointer (some ⟨b, 0, none⟩), .int .i64 1, .int .i64 k] wo fun e w' => e = .returned (.bool (good S.f 1 k)) ∧ Chg [] wo w') := Lib.hid (good_in (H.out.keep HC.out (by simp)) HS.out 1 k (by omega) hk5)
      go_wp2_with fail
      refine HG.out.mono ?_
      rintro e w2 ⟨rfl, hC2⟩
      have hF2 := H.out.keep (HC.out.trans hC2) (by simp)
      have HC2 : Hid (Chg [] w w2) := Lib.hid (HC.out.trans hC2)
      obtain ⟨z, y, q, q1, q2, hq, hq1, hq2, hlt, -, -, e3, e4, -, -, -, -, -, -⟩ := slot_nums 1 k (by omega) hk5
      have e5 : wrap64 (16 + (y : Int)) = (q : Int) := by
        have : (y : Int) = 3 * (k : Int) := by rw [← e3, IntWalk.wrap64_in _ ⟨by omega, by omega⟩]
        rw [IntWalk.wrap64_in _ ⟨by omega, by omega⟩]; omega
      have e6 : IntKind.i64.wrap (16 + (y : Int)) = (q : Int) := by rw [i64w]; exact e5
      have c0 := hF2.ci q (by omega)
      have i0 : (q : Int) < 32 := by omega
      have hna : newAt S.f k = (good S.f 1 k && decide (S.f q = counter S.f)) := by unfold newAt; rw [hq]
      obtain ⟨x, hx⟩ : ∃ x, x = S.f q := ⟨_, rfl⟩
      obtain ⟨c, hc⟩ : ∃ c, c = counter S.f := ⟨_, rfl⟩
      rw [← hx] at c0 hna
      rw [← hc] at hna
      have HNA := Lib.hid hna
      have HCC := Lib.hid hc
      clear hF2 hC2 hq hq1 hq2 hx hlt hna hc
      cases hg : good S.f 1 k with
      | true =>
        rw [hg] at HNA
        by_cases hxc : x = c
        · have hr : newest S.f = 1 := by
            have hna : newAt S.f k = true := by rw [HNA.out, hxc]; simp
            have hk5' : k = 0 ∨ k = 1 ∨ k = 2 ∨ k = 3 ∨ k = 4 := by omega
            unfold newest
            rcases hk5' with rfl | rfl | rfl | rfl | rfl <;> simp [hna]
          rw [hxc, HCC.out] at c0
          clear hxc
          go_wp2
          go_ret
          exact ⟨by rw [hr]; rfl, HC2.out⟩
        · have d0 : ((x : Int) == ((counter S.f : Nat) : Int)) = false := by rw [beq_eq_false_iff_ne, ← HCC.out]; omega
          have d1 : ((x : Int) = ((counter S.f : Nat) : Int)) = False := by rw [← HCC.out]; simp; omega
          have HX := Lib.hid hxc
          clear hxc
          go_wp2
          refine ⟨⟨k + 1, by omega, by go_num, fun j hj => ?_, HC2.out⟩, by simp only [intOf]; omega⟩
          rcases Nat.lt_or_ge j k with h | h
          · exact HN.out j h
          · obtain rfl : j = k := by omega
            rw [HNA.out]; simp [HX.out]
      | false =>
        rw [hg] at HNA
        go_wp2
        refine ⟨⟨k + 1, by omega, by go_num, fun j hj => ?_, HC2.out⟩, by simp only [intOf]; omega⟩
        rcases Nat.lt_or_ge j k with h | h
        · exact HN.out j h
        · obtain rfl : j = k := by omega
          rw [HNA.out]; rfl
    · obtain rfl : k = 5 := by omega
      have hr : newest S.f = 0 := by
        unfold newest
        rw [HN.out 0 (by omega), HN.out 1 (by omega), HN.out 2 (by omega), HN.out 3 (by omega), HN.out 4 (by omega)]; rfl
      go_wp2
      go_ret
      exact ⟨by rw [hr]; rfl, HC.out⟩
end Go.Proofs.L
