/- Proved here: lemmas and contracts (OwnWalk) for the laws of this seat, for all values of the stated types; no further condition. -/
import Derived.Test.YtefabfijlehfdaaFeedNew
open Go Go.RowKit Go.Lib
namespace Go.Proofs.L
theorem ex_step (a : ByteArray) (k : Nat) (h : k < a.size) : (a.extract k a.size).extract 1 (a.extract k a.size).size = a.extract (k + 1) a.size := by
  apply ByteArray.ext
  simp only [ByteArray.data_extract, ByteArray.size_extract]
  rw [Array.extract_extract]
  congr 1
  omega
theorem ex_first (a : ByteArray) (k : Nat) (h : k < a.size) (h2 : 0 < (a.extract k a.size).size) : (a.extract k a.size)[0] = a[k] := by
  simp [ByteArray.getElem_extract]
theorem own_free {w : World} {base e size n : Nat} {v : Value} {xs : List Value} (h : w.ownsRow base e size v n xs) (g : Nat) (hg : v.ownBlock = some g) (k : Nat) : w.frozen? ⟨g, k, none⟩ = false := by
  rcases h.2 with ⟨rfl, _⟩ | ⟨g', cap, cur, rfl, _, hgg, _⟩
  · simp [Value.ownBlock] at hg
  · simp [Value.ownBlock] at hg
    subst hg
    simp [World.frozen?, hgg]
theorem own_below {w w0 w1 w2 w3 : World} (h0 : Below w.heap.size w w0) (h1 : Below w0.heap.size w0 w1) (h2 : Chg [w0.heap.size] w1 w2) (h3 : Chg [w0.heap.size] w2 w3) : Below w.heap.size w w3 := by
  have b1 := h0.trans (h1.mono h0.size)
  have n1 : w.heap.size ≤ w0.heap.size := h0.size
  refine (b1.trans (h2.below (by simpa using n1) b1.size)).trans (h3.below (by simpa using n1) (Nat.le_trans b1.size h2.size))
set_option maxRecDepth 100000 in
set_option maxHeartbeats 3200000 in
theorem own_walk (a c : ByteArray) (ha : a.size ≤ maxLen) (hc : c.size ≤ maxLen) (w : World) : Calls Try.prog 3 #[.string a, .string c] w fun e w' => e = .returned (.bool true) ∧ Below w.heap.size w w' := by
  go_enter Try.func3, Try.ntmps3
  go_wp2_with fail
  refine (fit_ok w).mono ?_
  rintro e w0 ⟨rfl, hB0⟩
  have hN := new_bd 2 (by decide) (by decide) w0
  have hNB := new_below 2 w0
  obtain ⟨W1, hW1⟩ : ∃ W1, W1 = newW w0 2 := ⟨_, rfl⟩
  have hn := new_ok 2 (by decide) (by decide) w0
  rw [← hW1] at hN hNB hn
  have HB1 := Lib.hid hN
  have HNB := Lib.hid hNB
  have HB0 := Lib.hid hB0
  have HN := Lib.hid hn
  clear hW1 hN hNB hB0 hn
  go_wp2_with fail
  refine HN.out.mono ?_
  rintro e w1 ⟨rfl, rfl⟩
  by_cases h64 : a.size ≤ 64
  · have hfa := feed_new HB1.out 0 (by simp) (by simp) a ha
    rw [if_pos h64, if_pos h64] at hfa
    have hda : decide ((a.size : Int) ≤ 64) = true := by simp; omega
    have hda2 : decide ((a.size : Int) > 64) = false := by simp; omega
    have HFA := Lib.hid hfa
    have HA64 := Lib.hid h64
    clear hfa h64
    go_wp2_with fail
    refine HFA.out.mono ?_
    rintro e w2 ⟨rfl, hB2, hC2⟩
    have hB2' : Bd w2 (w0.heap.size + 1) w0.heap.size (.slice none 0 0) [] [a, ⟨#[]⟩] := hB2
    have HB2 := Lib.hid hB2'
    have HC2 := Lib.hid hC2
    clear hB2 hC2 hB2'
    by_cases c64 : c.size ≤ 64
    · have hfc := feed_new HB2.out 1 (by simp) (by simp) c hc
      rw [if_pos c64, if_pos c64] at hfc
      have hdc : decide ((c.size : Int) ≤ 64) = true := by simp; omega
      have hdc2 : decide ((c.size : Int) > 64) = false := by simp; omega
      have HFC := Lib.hid hfc
      have HC64 := Lib.hid c64
      clear hfc c64
      go_wp2_with fail
      refine HFC.out.mono ?_
      rintro e w3 ⟨rfl, hB3, hC3⟩
      have hB3' : Bd w3 (w0.heap.size + 1) w0.heap.size (.slice none 0 0) [] [a, c] := hB3
      have HB3 := Lib.hid hB3'
      have HC3 := Lib.hid hC3
      clear hB3 hC3 hB3'
      have hsay : Calls Try.prog 9 #[.pointer (some ⟨w0.heap.size + 1, 0, none⟩), .int .i64 0, .string ⟨#[120]⟩] w3 fun e w' => e = .returned (.int .i64 0) ∧ ∃ lv', Bd w' (w0.heap.size + 1) w0.heap.size lv' [(0, ⟨#[120]⟩)] [a, c] ∧ Chg [w0.heap.size + 1] w3 w' := by
        refine (say_ok HB3.out 0 ⟨#[120]⟩ (by simp [inB]) (by decide) (by decide) (by decide)).mono ?_
        rintro e w' ⟨rfl, lv', h1, h2, -⟩
        exact ⟨rfl, lv', h1, by simpa [Value.ownBlock] using h2⟩
      have HS := Lib.hid hsay
      clear hsay
      go_wp2_with fail
      refine HS.out.mono ?_
      rintro e w4 ⟨rfl, lv, hB4, hC4⟩
      have HB4 := Lib.hid hB4
      have HC4 := Lib.hid hC4
      clear hB4 hC4
      go_wp2_with fail
      refine (lines_any HB4.out).mono ?_
      rintro e w5 ⟨v5, rfl, ho5, hB5⟩
      obtain ⟨g5, cap5, rfl, hg5, hg5'⟩ := ho5.form (by simp)
      have c50 : w5.cell? ⟨g5, 0, none⟩ = some (.int .i64 0) := ho5.cells rfl 0 _ rfl
      have f50 : w5.frozen? ⟨g5, 0, none⟩ = false := own_free ho5 g5 rfl 0
      have HB5 := Lib.hid hB5
      have HG5 := Lib.hid hg5
      clear hB5 ho5 hg5 hg5'
      go_wp2_with fail
      obtain ⟨W6, hW6⟩ : ∃ W6, W6 = w5.setCell ⟨g5, 0, none⟩ (.int .i64 9) := ⟨_, rfl⟩
      rw [← hW6]
      have hC6 : Chg [] w4 W6 := by rw [hW6]; exact (Below.chg HB5.out []).setCell (Or.inr HG5.out) _
      have hB6 := HB4.out.keep hC6 (by simp)
      have HC6 := Lib.hid hC6
      clear hW6 hC6 c50 f50
      go_loopw [58] (fun i wr => ∃ k : Nat, k ≤ a.size ∧ i = .int .i64 k ∧ Bd wr (w0.heap.size + 1) w0.heap.size lv [(0, ⟨#[120]⟩)] [a.extract k a.size, c] ∧ Chg [w0.heap.size] W6 wr) (fun i _ => a.size - (intOf i).toNat)
      case atStart => exact ⟨0, Nat.zero_le _, rfl, by rw [show a.extract 0 a.size = a from ByteArray.extract_zero_size]; exact hB6, Chg.refl _ _⟩
      case round =>
        obtain ⟨k, hk, rfl, hBk, hCk⟩ := hrel
        clear hB6
        have HBk := Lib.hid hBk
        have HCk := Lib.hid hCk
        clear hBk hCk
        unfold maxLen at ha
        by_cases hlt : k < a.size
        · have hpos : 0 < (a.extract k a.size).size := by rw [ByteArray.size_extract]; omega
          have hh : Calls Try.prog 11 #[.pointer (some ⟨w0.heap.size + 1, 0, none⟩), .int .i64 0] wr fun e w' => e = .returned (.tuple #[.int .u8 (a[k].toNat : Int), .int .i64 0]) ∧
              Bd w' (w0.heap.size + 1) w0.heap.size lv [(0, ⟨#[120]⟩)] [a.extract (k + 1) a.size, c] ∧ Chg [w0.heap.size] wr w' := by
            refine (hear_ok HBk.out 0 (by simp) hpos).mono ?_
            rintro e w' ⟨rfl, h1, h2⟩
            refine ⟨?_, ?_, h2⟩
            · simp only [List.getElem_cons_zero]
              rw [ex_first a k hlt hpos]
            · simp only [List.getElem_cons_zero, List.set_cons_zero] at h1
              rw [ex_step a k hlt] at h1
              exact h1
          have HH := Lib.hid hh
          clear hh hpos
          go_wp2_with fail
          refine HH.out.mono ?_
          rintro e w7 ⟨rfl, hB7, hC7⟩
          have HB7 := Lib.hid hB7
          have HC7 := Lib.hid hC7
          clear hB7 hC7
          go_wp2
          go_roundw
          case rel => exact ⟨k + 1, hlt, by go_num, HB7.out, HCk.out.trans HC7.out⟩
          case measure => simp [intOf]; omega
        · obtain rfl : k = a.size := by omega
          have hz : (a.extract a.size a.size).size = 0 := by rw [ByteArray.size_extract]; omega
          have HZ := Lib.hid hz
          clear hz
          go_wp2_with fail
          refine (hear_empty HBk.out 0 (by simp) HZ.out).mono ?_
          rintro e w8 ⟨rfl, rfl⟩
          go_wp2_with fail
          have hin := input_any HBk.out 1
          rw [show inS [a.extract a.size a.size, c] 1 = c from rfl] at hin
          refine hin.mono ?_
          rintro e w9 ⟨rfl, rfl⟩
          clear hin
          go_wp2_with fail
          refine (lines_any HBk.out).mono ?_
          rintro e w10 ⟨v10, rfl, ho10, hB10⟩
          obtain ⟨g10, cap10, rfl, -, -⟩ := ho10.form (by simp)
          have d0 : w10.cell? ⟨g10, 0, none⟩ = some (.int .i64 0) := ho10.cells rfl 0 _ rfl
          have HB10 := Lib.hid hB10
          clear hB10 ho10
          go_wp2
          go_ret
          refine ⟨rfl, ?_⟩
          have b3 := own_below HB0.out HNB.out HC2.out HC3.out
          have n1 : w.heap.size ≤ w0.heap.size := HB0.out.size
          have b4 := b3.trans (HC4.out.below (n := w.heap.size) (by simp; omega) b3.size)
          have b6 := b4.trans (HC6.out.below (n := w.heap.size) (by simp) b4.size)
          have b7 := b6.trans (HCk.out.below (n := w.heap.size) (by simpa using n1) b6.size)
          exact b7.trans (HB10.out.mono b7.size)
    · have hfc := feed_new HB2.out 1 (by simp) (by simp) c hc
      rw [if_neg c64, if_neg c64] at hfc
      have hdc : decide ((c.size : Int) ≤ 64) = false := by simp; omega
      have hdc2 : decide ((c.size : Int) > 64) = true := by simp; omega
      have HFC := Lib.hid hfc
      have HC64 := Lib.hid c64
      clear hfc c64
      go_wp2_with fail
      refine HFC.out.mono ?_
      rintro e w3 ⟨rfl, hB3, hC3⟩
      have hB3' : Bd w3 (w0.heap.size + 1) w0.heap.size (.slice none 0 0) [] [a, ⟨#[]⟩] := hB3
      have HB3 := Lib.hid hB3'
      have HC3 := Lib.hid hC3
      clear hB3 hC3 hB3'
      go_wp2
      go_ret
      exact ⟨rfl, own_below HB0.out HNB.out HC2.out HC3.out⟩
  · have hfa := feed_new HB1.out 0 (by simp) (by simp) a ha
    rw [if_neg h64, if_neg h64] at hfa
    have hda : decide ((a.size : Int) ≤ 64) = false := by simp; omega
    have hda2 : decide ((a.size : Int) > 64) = true := by simp; omega
    have HFA := Lib.hid hfa
    have HA64 := Lib.hid h64
    clear hfa h64
    go_wp2_with fail
    refine HFA.out.mono ?_
    rintro e w2 ⟨rfl, hB2, hC2⟩
    have hB2' : Bd w2 (w0.heap.size + 1) w0.heap.size (.slice none 0 0) [] [⟨#[]⟩, ⟨#[]⟩] := hB2
    have HB2 := Lib.hid hB2'
    have HC2 := Lib.hid hC2
    clear hB2 hC2 hB2'
    by_cases c64 : c.size ≤ 64
    · have hfc := feed_new HB2.out 1 (by simp) (by simp) c hc
      rw [if_pos c64, if_pos c64] at hfc
      have hdc : decide ((c.size : Int) ≤ 64) = true := by simp; omega
      have hdc2 : decide ((c.size : Int) > 64) = false := by simp; omega
      have HFC := Lib.hid hfc
      have HC64 := Lib.hid c64
      clear hfc c64
      go_wp2_with fail
      refine HFC.out.mono ?_
      rintro e w3 ⟨rfl, hB3, hC3⟩
      have hB3' : Bd w3 (w0.heap.size + 1) w0.heap.size (.slice none 0 0) [] [⟨#[]⟩, c] := hB3
      have HB3 := Lib.hid hB3'
      have HC3 := Lib.hid hC3
      clear hB3 hC3 hB3'
      go_wp2
      go_ret
      exact ⟨rfl, own_below HB0.out HNB.out HC2.out HC3.out⟩
    · have hfc := feed_new HB2.out 1 (by simp) (by simp) c hc
      rw [if_neg c64, if_neg c64] at hfc
      have hdc : decide ((c.size : Int) ≤ 64) = false := by simp; omega
      have hdc2 : decide ((c.size : Int) > 64) = true := by simp; omega
      have HFC := Lib.hid hfc
      have HC64 := Lib.hid c64
      clear hfc c64
      go_wp2_with fail
      refine HFC.out.mono ?_
      rintro e w3 ⟨rfl, hB3, hC3⟩
      have hB3' : Bd w3 (w0.heap.size + 1) w0.heap.size (.slice none 0 0) [] [⟨#[]⟩, ⟨#[]⟩] := hB3
      have HB3 := Lib.hid hB3'
      have HC3 := Lib.hid hC3
      clear hB3 hC3 hB3'
      go_wp2
      go_ret
      exact ⟨rfl, own_below HB0.out HNB.out HC2.out HC3.out⟩
end Go.Proofs.L
