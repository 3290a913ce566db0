/- Proved here: lemmas and contracts (WearsWalk) for the laws of this seat, for all values of the stated types; no further condition. -/
import Derived.Test.YtfalldoimbedbaaNoneWalk
open Go Go.RowKit Go.Lib
namespace Go.Proofs.L
/-- a flash of which one word alone was written to -/
structure Wear (S : FS) (q x : Nat) : Prop where
  ok : S.Ok
  fu : S.fu = -1
  de : S.de = false
  here : S.f q = x
  oth : ∀ k, k < 32 → k ≠ q → S.f k = 4294967295
theorem Wear.okB {S q x} (h : Wear S q x) : S.okB = true := by unfold FS.okB; rw [h.fu, h.de]; rfl
theorem Wear.errW {S q x} (h : Wear S q x) : errW S = 0 := by unfold L.errW; rw [h.okB]; rfl
theorem Wear.step {S q x} (h : Wear S q x) : S.step = S := by unfold FS.step; rw [h.fu, h.de]; rfl
theorem wear_new (q : Nat) : Wear newS q 4294967295 := ⟨newS_ok, rfl, rfl, rfl, fun _ _ _ => rfl⟩
theorem Wear.write {S q x} (h : Wear S q x) (y : Nat) : Wear (S.write q y) q (x &&& y) := by
  have e : S.write q y = { S with f := up S.f q (S.f q &&& y) } := by unfold FS.write; rw [h.okB, h.step]; rfl
  refine ⟨h.ok.write _ _, by rw [e]; exact h.fu, by rw [e]; exact h.de, by rw [e]; simp [up, h.here], fun k hk hq => by rw [e]; simp only [up, if_neg hq]; exact h.oth k hk hq⟩
theorem and_ones (x : Nat) (h : x < 4294967296) : x &&& 4294967295 = x := by
  rw [show (4294967295 : Nat) = 2 ^ 32 - 1 by rfl, Nat.and_two_pow_sub_one_eq_mod]; omega
theorem or_ones (x : Nat) (h : x < 4294967296) : x ||| 4294967295 = 4294967295 := by
  apply Nat.eq_of_testBit_eq
  intro i
  rw [Nat.testBit_or, show (4294967295 : Nat) = 2 ^ 32 - 1 by rfl, Nat.testBit_two_pow_sub_one]
  by_cases hi : i < 32
  · simp [hi]
  · simp [hi]; exact Nat.testBit_lt_two_pow (Nat.lt_of_lt_of_le h (Nat.pow_le_pow_right (n := 2) (by decide) (show 32 ≤ i by omega)))
theorem Wear.erase {S q x} (h : Wear S q x) (s : Nat) : Wear (S.erase s) q (if q / 16 = s then 4294967295 else x) := by
  have e : S.erase s = { S with f := eraseW S.f (16 * s) 4294967295 16 } := by unfold FS.erase; rw [h.okB, h.step]; rfl
  refine ⟨h.ok.erase _, by rw [e]; exact h.fu, by rw [e]; exact h.de, ?_, fun k hk hq => ?_⟩
  · rw [e]
    show eraseW S.f (16 * s) 4294967295 16 q = _
    unfold eraseW
    by_cases hs : q / 16 = s
    · rw [if_pos hs, if_pos (by omega), or_ones _ (h.ok.f q)]
    · rw [if_neg hs, if_neg (by omega)]; exact h.here
  · rw [e]
    show eraseW S.f (16 * s) 4294967295 16 k = _
    unfold eraseW
    split
    · exact or_ones _ (h.ok.f k)
    · exact h.oth k hk hq
theorem tmod32 (i : Int) : -32 < i.tmod 32 ∧ i.tmod 32 < 32 := by
  rcases Int.le_total 0 i with h | h
  · rw [Int.tmod_eq_emod_of_nonneg h]; omega
  · have : i.tmod 32 = -((-i).tmod 32) := by rw [Int.neg_tmod, Int.neg_neg]
    rw [this, Int.tmod_eq_emod_of_nonneg (by omega)]; omega
theorem chg_below {N : Nat} {w a b : World} {E : List Nat} (h : Below N w a) (hc : Chg E a b) (hE : ∀ k ∈ E, N ≤ k) (hN : N ≤ a.heap.size) : Below N w b := h.trans (hc.below hE hN)
set_option maxRecDepth 100000 in
set_option maxHeartbeats 1600000 in
theorem wears_walk (i : Int) (p : Option Addr) (sb so len cap : Nat) (X : Nat → Nat) (er : Bool) (w : World) (hlen : len ≤ 100) (hp : 0 < len → p = some ⟨sb, so, none⟩)
    (hcell : ∀ k, k < len → w.cell? ⟨sb, so + k, none⟩ = some (.int .u32 (X k : Int))) (hX : ∀ k, X k < 4294967296) :
    Calls Try.prog 3 #[.int .i64 i, .slice p len cap, .bool er] w fun e w' => e = .returned (.bool true) ∧ Below w.heap.size w w' := by
  have dl : decide ((len : Int) > 100) = false := by simp; omega
  have dl2 : decide (100 < (len : Int)) = false := by simp; omega
  obtain ⟨q, hq, hq32⟩ : ∃ q : Nat, (wrap64 (i.tmod 32 + 32)).tmod 32 = (q : Int) ∧ q < 32 := by
    have h := tmod32 i
    rw [IntWalk.wrap64_in _ ⟨by omega, by omega⟩, Int.tmod_eq_emod_of_nonneg (by omega)]
    exact ⟨((i.tmod 32 + 32) % 32).toNat, by omega, by omega⟩
  have HC := Lib.hid hcell
  have HP := Lib.hid hp
  have HX := Lib.hid hX
  clear hcell hp hX
  go_enter Try.func3, Try.ntmps3
  go_wp2_with fail
  refine (fit_ok w).mono ?_
  rintro e w0 ⟨rfl, hB0⟩
  have HB0 := Lib.hid hB0
  clear hB0
  go_wp2_with fail
  refine (new_any w0).mono ?_
  rintro e w1 ⟨rfl, hF1, hC1⟩
  have HB1 : Hid (Below w.heap.size w w1) := Lib.hid (chg_below HB0.out hC1 (by simp) HB0.out.size)
  have HF1 := Lib.hid hF1
  have HN : Hid (w.heap.size ≤ w0.heap.size) := Lib.hid HB0.out.size
  clear hF1 hC1 HB0 hq
  generalize w0.heap.size = b at *
  go_wp2_with fail
  go_loopw [24, 8] (fun i o wr => ∃ (k x : Nat) (S : FS), k ≤ len ∧ i = .int .i64 k ∧ o = .int .u32 (x : Int) ∧ x < 4294967296 ∧ Wear S q x ∧ Fl wr b S ∧ Below w.heap.size w wr) (fun i _ _ => len - (intOf i).toNat)
  case atStart => exact ⟨0, 4294967295, newS, Nat.zero_le _, rfl, rfl, by decide, wear_new q, HF1.out, HB1.out⟩
  case round =>
    obtain ⟨k, x, S, hk, rfl, rfl, hx, hw, hF, hB⟩ := hrel
    obtain ⟨wo, rfl⟩ : ∃ wo : World, wo = wr := ⟨_, rfl⟩
    have HW := Lib.hid hw
    have HF := Lib.hid hF
    have HB := Lib.hid hB
    have HXx := Lib.hid hx
    clear hw hF hB hx
    by_cases hlt : k < len
    · have dk : decide ((k : Int) < (len : Int)) = true := by simp; omega
      have c0 := HC.out k hlt
      have hsb := World.block_lt_of_cell? w _ c0
      have s0 : wo.cell? ⟨sb, so + k, none⟩ = some (.int .u32 (X k : Int)) := (HB.out.cell (p := ⟨sb, so + k, none⟩) hsb).trans c0
      have hpp := HP.out (by omega)
      subst hpp
      have HWr : Hid (Calls Try.prog 10 #[.pointer (some ⟨b, 0, none⟩), .int .i64 (q : Int), .int .u32 (X k : Int)] wo fun e w' => e = .returned (.int .i64 0) ∧ Fl w' b (S.write q (X k)) ∧ Chg [b] wo w') := by
        have h := write_in HF.out HW.out.ok q (X k) hq32 (HX.out k)
        rw [HW.out.errW] at h
        exact Lib.hid h
      have a1 := and32 x (X k) HXx.out (HX.out k)
      have HA : Hid (x &&& X k < 4294967296) := Lib.hid (and_lt _ _ HXx.out)
      clear c0 hsb
      go_wp2_with fail
      refine HWr.out.mono ?_
      rintro e w2 ⟨rfl, hF2, hC2⟩
      have HF2 := Lib.hid hF2
      have HB2 : Hid (Below w.heap.size w w2) := Lib.hid (chg_below HB.out hC2 (by simp; exact HN.out) HB.out.size)
      clear hF2 hC2 HWr
      go_wp2
      exact ⟨⟨k + 1, x &&& X k, _, by omega, by go_num, rfl, HA.out, HW.out.write (X k), HF2.out, HB2.out⟩, by simp only [intOf]; omega⟩
    · obtain rfl : k = len := by omega
      have HR := read_in HF.out q hq32
      rw [HW.out.here] at HR
      have HR := Lib.hid HR
      go_wp2_with fail
      refine HR.out.mono ?_
      rintro e w2 ⟨rfl, rfl⟩
      go_upto_if 42 with (fail)
      clear HR
      go_cut [8] (fun o wx => ∃ (x : Nat) (S : FS), o = .int .u32 (x : Int) ∧ x < 4294967296 ∧ Wear S q x ∧ Fl wx b S ∧ Below w.heap.size w wx)
      case first =>
        cases er with
        | false =>
          go_wp2_with fail
          go_meet
          exact ⟨x, S, rfl, HXx.out, HW.out, HF.out, HB.out⟩
        | true =>
          obtain ⟨z, hz⟩ : ∃ z, z = q / 16 := ⟨_, rfl⟩
          have hz2 : z < 2 := by omega
          have e1 : (q : Int).tdiv 16 = (z : Int) := by rw [Int.tdiv_eq_ediv_of_nonneg (by omega)]; omega
          have e1' : (q : Int) / 16 = (z : Int) := by omega
          have e2 : wrap64 (1 - (z : Int)) = ((1 - z : Nat) : Int) := by rw [IntWalk.wrap64_in _ ⟨by omega, by omega⟩]; omega
          have e3 : (1 : Int) - (z : Int) = ((1 - z : Nat) : Int) := by omega
          have hE := erase_in HF.out HW.out.ok (1 - z) (by omega)
          have hW2 := HW.out.erase (1 - z)
          rw [if_neg (by omega)] at hW2
          obtain ⟨y, hy⟩ : ∃ y, y = 1 - z := ⟨_, rfl⟩
          rw [← hy] at e2 e3 hE hW2
          rw [HW.out.errW] at hE
          have HE := Lib.hid hE
          have HW2 := Lib.hid hW2
          have HZ := Lib.hid hz
          clear hE hW2 hy hz
          go_wp2_with fail
          refine HE.out.mono ?_
          rintro e w3 ⟨rfl, hF3, hC3⟩
          have HF3 := Lib.hid hF3
          have HB3 : Hid (Below w.heap.size w w3) := Lib.hid (chg_below HB.out hC3 (by simp; exact HN.out) HB.out.size)
          have HR := read_in hF3 q hq32
          rw [HW2.out.here] at HR
          have HR := Lib.hid HR
          have hE2 := erase_in hF3 HW2.out.ok z hz2
          rw [HW2.out.errW] at hE2
          have HE2 := Lib.hid hE2
          clear hF3 hC3 HE hE2
          go_wp2_with fail
          refine HR.out.mono ?_
          rintro e w4 ⟨rfl, rfl⟩
          go_wp2_with fail
          refine HE2.out.mono ?_
          rintro e w5 ⟨rfl, hF5, hC5⟩
          have HF5 := Lib.hid hF5
          have HB5 : Hid (Below w.heap.size w w5) := Lib.hid (chg_below HB3.out hC5 (by simp; exact HN.out) HB3.out.size)
          clear hF5 hC5 HE2 HR
          go_wp2_with fail
          go_meet
          have hW5 := HW2.out.erase z
          rw [if_pos HZ.out.symm] at hW5
          exact ⟨4294967295, _, rfl, by decide, hW5, HF5.out, HB5.out⟩
      case rest =>
        obtain ⟨x', S', rfl, hx', hw', hf', hb'⟩ := hcut
        have HW' := Lib.hid hw'
        have HF' := Lib.hid hf'
        have HB' := Lib.hid hb'
        clear hx' hw' hf' hb' HW HF HB HXx
        go_wp2_with fail
        go_loopw [57] (fun i wr => ∃ j : Nat, j ≤ 32 ∧ i = .int .i64 j ∧ wr = wc) (fun i _ => 32 - (intOf i).toNat)
        case atStart => exact ⟨0, by omega, rfl, rfl⟩
        case round =>
          obtain ⟨j, hj, rfl, rfl⟩ := hrel
          by_cases hj2 : j < 32
          · have dj : decide ((j : Int) < 32) = true := by simp; omega
            by_cases hjq : j = q
            · subst hjq
              go_wp2
              exact ⟨⟨j + 1, by omega, by go_num, by first | rfl | trivial⟩, by simp only [intOf]; omega⟩
            · have hR := read_in HF'.out j hj2
              rw [HW'.out.oth j hj2 hjq] at hR
              have HR : Hid (Calls Try.prog 11 #[.pointer (some ⟨b, 0, none⟩), .int .i64 (j : Int)] wr fun e w' => e = .returned (.int .u32 4294967295) ∧ w' = wr) := Lib.hid hR
              have n1 : ((j : Int) == (q : Int)) = false := by simp; omega
              have n2 : ((j : Int) = (q : Int)) = False := by simp; omega
              have n3 : (j = q) = False := by simp; omega
              clear hR hjq
              go_wp2_with fail
              refine HR.out.mono ?_
              rintro e w4 ⟨rfl, rfl⟩
              go_wp2
              exact ⟨⟨j + 1, by omega, by go_num, by first | rfl | trivial⟩, by simp only [intOf]; omega⟩
          · obtain rfl : j = 32 := by omega
            have HR := read_in HF'.out q hq32
            rw [HW'.out.here] at HR
            have HR := Lib.hid HR
            go_wp2_with fail
            refine HR.out.mono ?_
            rintro e w4 ⟨rfl, rfl⟩
            go_wp2
            go_ret
            exact ⟨by simp, HB'.out⟩
theorem wears_all (i : Int) (p : Option Addr) (sb so len cap : Nat) (X : Nat → Nat) (er : Bool) (w : World) (hp : 0 < len → p = some ⟨sb, so, none⟩)
    (hcell : ∀ k, k < len → w.cell? ⟨sb, so + k, none⟩ = some (.int .u32 (X k : Int))) (hX : ∀ k, X k < 4294967296) :
    Calls Try.prog 3 #[.int .i64 i, .slice p len cap, .bool er] w fun e w' => e = .returned (.bool true) ∧ Below w.heap.size w w' := by
  by_cases h : len ≤ 100
  · exact wears_walk i p sb so len cap X er w h hp hcell hX
  · have dl : decide ((len : Int) > 100) = true := by simp; omega
    have dl2 : decide (100 < (len : Int)) = true := by simp; omega
    clear hp hcell hX
    go_enter Try.func3, Try.ntmps3
    go_wp2_with fail
    refine (fit_ok w).mono ?_
    rintro e w0 ⟨rfl, hB0⟩
    go_wp2
    go_ret
    exact ⟨rfl, hB0⟩
end Go.Proofs.L
