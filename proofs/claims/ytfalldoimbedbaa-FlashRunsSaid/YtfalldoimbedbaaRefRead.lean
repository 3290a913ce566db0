/- Proved here: lemmas and contracts (RefRead) for the laws of this seat, for all values of the stated types; no further condition. -/
import Derived.Test.YtfalldoimbedbaaRisesWalk
open Go Go.RowKit Go.Lib
namespace Go.Proofs.L
/-- which bits a step changes -/
def FS.bits (S : FS) : Nat := if S.okB then 4294967295 else if S.lastB then S.tn else 0
theorem FS.Ok.bits {S : FS} (h : S.Ok) : S.bits < 4294967296 := by
  unfold FS.bits; have := h.tn; split
  · decide
  · split <;> omega
theorem rbits_in {w b S} (h : Fl w b S) (hS : S.Ok) : Calls Try.prog 32 #[.pointer (some ⟨b, 0, none⟩)] w fun e w' => e = .returned (.int .u32 (S.bits : Int)) ∧ Fl w' b S.step ∧ Chg [b] w w' := by
  have c2 := h.c32
  have c3 := h.c33
  have c4 := h.c34
  have f2 := h.fr 32
  have f4 := h.fr 34
  have H := Lib.hid h
  have hfu := hS.fu
  clear h hS
  obtain ⟨fu, hf⟩ : ∃ x, x = S.fu := ⟨_, rfl⟩
  obtain ⟨tn, ht⟩ : ∃ x, x = S.tn := ⟨_, rfl⟩
  rw [← hf] at c2 hfu
  rw [← ht] at c3
  have HT := Lib.hid ht
  have HF := Lib.hid hf
  clear ht hf
  cases hd : S.de with
  | true =>
    rw [hd] at c4
    have hb : Hid (S.bits = 0) := Lib.hid (by simp [FS.bits, FS.okB, FS.lastB, hd])
    have hs : Hid (S.step = S) := Lib.hid (by simp [FS.step, hd])
    clear hd
    go_enter Try.func32, Try.ntmps32
    go_wp2
    go_ret
    exact ⟨by rw [hb.out]; rfl, by rw [hs.out]; exact H.out, Chg.refl _ _⟩
  | false =>
    rw [hd] at c4
    by_cases h0 : fu = 0
    · have hb : Hid (S.bits = tn) := Lib.hid (by simp [FS.bits, FS.okB, FS.lastB, hd, ← HF.out, h0, HT.out])
      have hs : Hid (S.step = { S with de := true }) := Lib.hid (by simp [FS.step, hd, ← HF.out, h0])
      subst h0
      clear hd
      go_enter Try.func32, Try.ntmps32
      go_wp2
      go_ret
      exact ⟨by rw [hb.out]; rfl, by rw [hs.out]; exact H.out.set34 true, chg_set _ _ _ _⟩
    · have e0 : (fu == 0) = false := by simpa using h0
      have hb : Hid (S.bits = 4294967295) := Lib.hid (by simp [FS.bits, FS.okB, hd, ← HF.out, h0])
      by_cases h1 : 0 < fu
      · have d1 : decide (fu > 0) = true := by simpa using h1
        have d2 : decide (0 < fu) = true := by simpa using h1
        have e1 : wrap64 (fu - 1) = fu - 1 := IntWalk.wrap64_in _ ⟨by omega, by omega⟩
        have hs : Hid (S.step = { S with fu := fu - 1 }) := Lib.hid (by simp [FS.step, hd, ← HF.out, h0, h1])
        clear hd
        go_enter Try.func32, Try.ntmps32
        go_wp2
        go_ret
        exact ⟨by rw [hb.out]; rfl, by rw [hs.out]; exact H.out.set32 (fu - 1), chg_set _ _ _ _⟩
      · have d1 : decide (fu > 0) = false := by simpa using h1
        have d2 : decide (0 < fu) = false := by simpa using h1
        have hs : Hid (S.step = S) := Lib.hid (by unfold FS.step; rw [hd, ← HF.out, if_neg (by simp), if_neg h0, if_neg h1])
        clear hd
        go_enter Try.func32, Try.ntmps32
        go_wp2
        go_ret
        exact ⟨by rw [hb.out]; rfl, by rw [hs.out]; exact H.out, Chg.refl _ _⟩
/-- the numbers of a slot -/
theorem rslot_nums (i : Nat) (hi : i < 10) : ∃ z u y m q q1 q2 : Nat, q = 16 * (i / 5) + 3 * (i % 5) ∧ q1 = q + 1 ∧ q2 = q + 2 ∧ q2 < 32 ∧ (i : Int).tdiv 5 = (z : Int) ∧ (i : Int) / 5 = (z : Int) ∧ wrap64 (z : Int) = (z : Int) ∧ (i : Int).tmod 5 = (m : Int) ∧ (i : Int) % 5 = (m : Int) ∧
    wrap64 ((z : Int) * 16) = (u : Int) ∧ IntKind.i64.wrap ((z : Int) * 16) = (u : Int) ∧ wrap64 ((m : Int) * 3) = (y : Int) ∧ IntKind.i64.wrap ((m : Int) * 3) = (y : Int) ∧
    wrap64 ((u : Int) + (y : Int)) = (q : Int) ∧ wrap64 ((q : Int) + 1) = (q1 : Int) ∧ IntKind.i64.wrap ((q : Int) + 1) = (q1 : Int) ∧ wrap64 ((q : Int) + 2) = (q2 : Int) ∧ IntKind.i64.wrap ((q : Int) + 2) = (q2 : Int) := by
  have a1 : wrap64 (((i / 5 : Nat) : Int) * 16) = ((16 * (i / 5) : Nat) : Int) := by rw [IntWalk.wrap64_in _ ⟨by omega, by omega⟩]; omega
  have a2 : wrap64 (((i % 5 : Nat) : Int) * 3) = ((3 * (i % 5) : Nat) : Int) := by rw [IntWalk.wrap64_in _ ⟨by omega, by omega⟩]; omega
  have a3 : wrap64 (((16 * (i / 5) : Nat) : Int) + ((3 * (i % 5) : Nat) : Int)) = ((16 * (i / 5) + 3 * (i % 5) : Nat) : Int) := by rw [IntWalk.wrap64_in _ ⟨by omega, by omega⟩]; omega
  have a4 : wrap64 (((16 * (i / 5) + 3 * (i % 5) : Nat) : Int) + 1) = ((16 * (i / 5) + 3 * (i % 5) + 1 : Nat) : Int) := by rw [IntWalk.wrap64_in _ ⟨by omega, by omega⟩]; omega
  have a5 : wrap64 (((16 * (i / 5) + 3 * (i % 5) : Nat) : Int) + 2) = ((16 * (i / 5) + 3 * (i % 5) + 2 : Nat) : Int) := by rw [IntWalk.wrap64_in _ ⟨by omega, by omega⟩]; omega
  refine ⟨i / 5, 16 * (i / 5), 3 * (i % 5), i % 5, 16 * (i / 5) + 3 * (i % 5), 16 * (i / 5) + 3 * (i % 5) + 1, 16 * (i / 5) + 3 * (i % 5) + 2, rfl, rfl, rfl, by omega, ?_, by omega, IntWalk.wrap64_in _ ⟨by omega, by omega⟩, ?_, by omega, a1, by rw [i64w]; exact a1, a2, by rw [i64w]; exact a2, a3, a4, by rw [i64w]; exact a4, a5, by rw [i64w]; exact a5⟩
  · rw [Int.tdiv_eq_ediv_of_nonneg (by omega)]; omega
  · rw [Int.tmod_eq_emod_of_nonneg (by omega)]; omega
theorem add_ones (a b : Nat) (ha : a < 4294967296) (hb : b < 4294967296) : (a + b) % 4294967296 = 4294967295 ↔ a = 4294967295 - b := by omega
theorem rvalue_in {w b S} (h : Fl w b S) (hS : S.Ok) (i : Nat) (hi : i < 10) : Calls Try.prog 30 #[.pointer (some ⟨b, 0, none⟩), .int .i64 i] w fun e w' => e = .returned (.tuple #[.int .u32 (S.f (16 * (i / 5) + 3 * (i % 5)) : Nat), .bool (good S.f (i / 5) (i % 5))]) ∧ Chg [] w w' := by
  obtain ⟨z, u, y, m, q, q1, q2, hq, hq1, hq2, hlt, e1, e1', ez, e2, e2', e3, e4, e5, e6, e7, e8, e9, e10, e11⟩ := rslot_nums i hi
  have c0 := h.ci q (by omega)
  have c1 := h.ci q1 (by omega)
  have c2 := h.ci q2 (by omega)
  have g : good S.f (i / 5) (i % 5) = (decide (S.f q2 = 0) && decide (S.f q = 4294967295 - S.f q1)) := by unfold good; rw [hq2, hq1, hq]
  rw [g, ← hq]
  have i0 : (q : Int) < 32 := by omega
  have i1 : (q1 : Int) < 32 := by omega
  have i2 : (q2 : Int) < 32 := by omega
  have b0 := hS.f q
  have b1 := hS.f q1
  obtain ⟨x0, hx0⟩ : ∃ x, x = S.f q := ⟨_, rfl⟩
  obtain ⟨x1, hx1⟩ : ∃ x, x = S.f q1 := ⟨_, rfl⟩
  obtain ⟨x2, hx2⟩ : ∃ x, x = S.f q2 := ⟨_, rfl⟩
  rw [← hx0] at c0 b0 ⊢
  rw [← hx1] at c1 b1 ⊢
  rw [← hx2] at c2 ⊢
  have hsum : IntKind.u32.wrap ((x0 : Int) + (x1 : Int)) = (((x0 + x1) % 4294967296 : Nat) : Int) := by rw [u32w]; omega
  have HA := Lib.hid (add_ones x0 x1 b0 b1)
  obtain ⟨t, ht⟩ : ∃ t, t = (x0 + x1) % 4294967296 := ⟨_, rfl⟩
  rw [← ht] at hsum HA
  clear h hS g hq hq1 hq2 hx0 hx1 hx2 hlt hi b0 b1 ht
  by_cases ht1 : t = 4294967295
  · have d0 : ((t : Int) == 4294967295) = true := by rw [beq_iff_eq]; omega
    have d1 : ((t : Int) = 4294967295) = True := by simp; omega
    have d2 : (t = 4294967295) = True := by simp; omega
    have HX := Lib.hid (HA.out.1 ht1)
    clear ht1
    go_enter Try.func30, Try.ntmps30
    go_wp2_with fail
    go_quiet (fail)
    go_wp2
    go_ret2
    refine ⟨?_, by first | exact (Chg.refl _ _).drewN _ | exact (Chg.refl _ _).drew⟩
    have hx : x0 = 4294967295 - x1 := HX.out
    have : (decide (x2 = 0) && decide (x0 = 4294967295 - x1)) = decide (x2 = 0) := by rw [decide_eq_true hx, Bool.and_true]
    rw [this]
    simp
    rw [Bool.eq_iff_iff]
    simp
    try omega
  · have d0 : ((t : Int) == 4294967295) = false := by rw [beq_eq_false_iff_ne]; omega
    have d1 : ((t : Int) = 4294967295) = False := by simp; omega
    have d2 : (t = 4294967295) = False := by simp; omega
    have HX := Lib.hid (fun hx => ht1 (HA.out.2 hx))
    clear ht1
    go_enter Try.func30, Try.ntmps30
    go_wp2_with fail
    go_quiet (fail)
    go_wp2
    go_ret2
    refine ⟨?_, by first | exact (Chg.refl _ _).drewN _ | exact (Chg.refl _ _).drew⟩
    have : (decide (x2 = 0) && decide (x0 = 4294967295 - x1)) = false := by rw [decide_eq_false HX.out, Bool.and_false]
    rw [this]
    first | rfl | simp
theorem and_ones3 (a b c : Nat) (ha : a < 4294967296) (hb : b < 4294967296) (hc : c < 4294967296) : a &&& b &&& c = 4294967295 ↔ a = 4294967295 ∧ b = 4294967295 ∧ c = 4294967295 := by
  constructor
  · intro h
    have h1 : a &&& b &&& c ≤ a &&& b := Nat.and_le_left
    have h2 : a &&& b &&& c ≤ c := Nat.and_le_right
    have h3 : a &&& b ≤ a := Nat.and_le_left
    have h4 : a &&& b ≤ b := Nat.and_le_right
    omega
  · rintro ⟨rfl, rfl, rfl⟩; decide
theorem rerased_in {w b S} (h : Fl w b S) (hS : S.Ok) (i : Nat) (hi : i < 10) : Calls Try.prog 31 #[.pointer (some ⟨b, 0, none⟩), .int .i64 i] w fun e w' => e = .returned (.bool (fresh S.f (i / 5) (i % 5))) ∧ Chg [] w w' := by
  obtain ⟨z, u, y, m, q, q1, q2, hq, hq1, hq2, hlt, e1, e1', ez, e2, e2', e3, e4, e5, e6, e7, e8, e9, e10, e11⟩ := rslot_nums i hi
  have c0 := h.ci q (by omega)
  have c1 := h.ci q1 (by omega)
  have c2 := h.ci q2 (by omega)
  have g : fresh S.f (i / 5) (i % 5) = decide (S.f q &&& S.f q1 &&& S.f q2 = 4294967295) := by
    have h3 := and_ones3 (S.f q) (S.f q1) (S.f q2) (hS.f q) (hS.f q1) (hS.f q2)
    have ea : 16 * (i / 5) + 3 * (i % 5) + 2 = q2 := by omega
    have eb : 16 * (i / 5) + 3 * (i % 5) + 1 = q1 := by omega
    unfold fresh
    rw [ea, eb, ← hq, Bool.eq_iff_iff]
    simp only [Bool.and_eq_true, decide_eq_true_eq]
    rw [h3, and_assoc]
  rw [g]
  have i0 : (q : Int) < 32 := by omega
  have i1 : (q1 : Int) < 32 := by omega
  have i2 : (q2 : Int) < 32 := by omega
  have a1 := and32 (S.f q) (S.f q1) (hS.f q) (hS.f q1)
  have a2 := and32 (S.f q &&& S.f q1) (S.f q2) (and_lt _ _ (hS.f q)) (hS.f q2)
  obtain ⟨x0, hx0⟩ : ∃ x, x = S.f q := ⟨_, rfl⟩
  obtain ⟨x1, hx1⟩ : ∃ x, x = S.f q1 := ⟨_, rfl⟩
  obtain ⟨x2, hx2⟩ : ∃ x, x = S.f q2 := ⟨_, rfl⟩
  rw [← hx0] at c0 a1 a2 ⊢
  rw [← hx1] at c1 a1 a2 ⊢
  rw [← hx2] at c2 a2 ⊢
  obtain ⟨t, ht⟩ : ∃ t, t = x0 &&& x1 &&& x2 := ⟨_, rfl⟩
  rw [← ht] at a2 ⊢
  clear h hS g hq hq1 hq2 hx0 hx1 hx2 hlt hi ht
  go_enter Try.func31, Try.ntmps31
  go_wp2_with fail
  go_quiet (fail)
  go_wp2
  go_ret
  refine ⟨ret_b (by rw [Bool.eq_iff_iff]; simp; try omega), by first | exact (Chg.refl _ _).drewN _ | exact (Chg.refl _ _).drew⟩
theorem rcounter_in {w b S} (h : Fl w b S) (hS : S.Ok) : Calls Try.prog 29 #[.pointer (some ⟨b, 0, none⟩)] w fun e w' => e = .returned (.int .u32 (counter S.f)) ∧ Chg [] w w' := by
  have H := Lib.hid h
  have HS := Lib.hid hS
  clear h hS
  go_enter Try.func29, Try.ntmps29
  go_wp2_with fail
  go_loopw [4, 3] (fun i o wr => ∃ k : Nat, k ≤ 10 ∧ i = .int .i64 k ∧ o = .int .u32 (cnt S.f k : Nat) ∧ Chg [] w wr) (fun i _ _ => 10 - (intOf i).toNat)
  case atStart => exact ⟨0, by omega, rfl, rfl, Chg.refl _ _⟩
  case round =>
    obtain ⟨k, hk, rfl, rfl, hC⟩ := hrel
    obtain ⟨wo, rfl⟩ : ∃ wo : World, wo = wr := ⟨_, rfl⟩
    have HC := Lib.hid hC
    clear hC
    by_cases hk2 : k < 10
    · have dk : decide ((k : Int) < 10) = true := by simp; omega
      have hcn : cnt S.f (k + 1) = if good S.f (k / 5) (k % 5) then max (cnt S.f k) (S.f (16 * (k / 5) + 3 * (k % 5))) else cnt S.f k := by rw [cnt]
      have HV := Lib.hid (rvalue_in (H.out.keep HC.out (by simp)) HS.out k hk2)
      have HN := Lib.hid hcn
      clear hcn
      obtain ⟨x, hx⟩ : ∃ x, x = S.f (16 * (k / 5) + 3 * (k % 5)) := ⟨_, rfl⟩
      rw [← hx] at HV HN
      clear hx
      go_wp2_with fail
      refine HV.out.mono ?_
      rintro e w2 ⟨rfl, hC2⟩
      have HC2 : Hid (Chg [] w w2) := Lib.hid (HC.out.trans hC2)
      clear hC2 HV
      obtain ⟨c, hc⟩ : ∃ c, c = cnt S.f k := ⟨_, rfl⟩
      cases hg : good S.f (k / 5) (k % 5) with
      | true =>
        rw [hg, ← hc] at HN
        have HCc := Lib.hid hc
        by_cases hgt : c < x
        · have d0 : decide ((x : Int) > ((cnt S.f k : Nat) : Int)) = true := by rw [← hc]; simp; omega
          have d1 : (((cnt S.f k : Nat) : Int) < (x : Int)) = True := by rw [← hc]; simp; omega
          have d2 : (cnt S.f k < x) = True := by rw [← hc]; simp; omega
          clear hc
          go_wp2
          exact ⟨⟨k + 1, by omega, by go_num, by rw [HN.out, if_pos trivial, Nat.max_eq_right (Nat.le_of_lt hgt)], HC2.out⟩, by simp only [intOf]; omega⟩
        · have d0 : decide ((x : Int) > ((cnt S.f k : Nat) : Int)) = false := by rw [← hc]; simp; omega
          have d1 : (((cnt S.f k : Nat) : Int) < (x : Int)) = False := by rw [← hc]; simp; omega
          have d2 : (cnt S.f k < x) = False := by rw [← hc]; simp; omega
          clear hc
          go_wp2
          exact ⟨⟨k + 1, by omega, by go_num, by rw [HN.out, if_pos trivial, Nat.max_eq_left (by omega), HCc.out], HC2.out⟩, by simp only [intOf]; omega⟩
      | false =>
        rw [hg] at HN
        clear hc
        go_wp2
        exact ⟨⟨k + 1, by omega, by go_num, by rw [HN.out]; rfl, HC2.out⟩, by simp only [intOf]; omega⟩
    · obtain rfl : k = 10 := by omega
      go_wp2
      go_ret
      exact ⟨rfl, HC.out⟩
end Go.Proofs.L
