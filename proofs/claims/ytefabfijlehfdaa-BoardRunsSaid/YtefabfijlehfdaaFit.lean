/- Proved here: lemmas and contracts (Fit) for the laws of this seat, for all values of the stated types; no further condition. -/
import Derived.Test.YtefabfijlehfdaaLines
open Go Go.RowKit Go.Lib
namespace Go.Proofs.L
set_option maxRecDepth 100000 in
set_option maxHeartbeats 1600000 in
theorem fit_ok (w : World) : Calls Try.prog 6 #[] w fun e w' => e = .returned (.bool true) ∧ Below w.heap.size w w' := by
  have hN := new_bd 2 (by decide) (by decide) w
  have hNB := new_below 2 w
  obtain ⟨W1, hW1⟩ : ∃ W1, W1 = newW w 2 := ⟨_, rfl⟩
  have hn := new_ok 2 (by decide) (by decide) w
  rw [← hW1] at hN hNB hn
  have HB1 := Lib.hid hN
  have HNB := Lib.hid hNB
  clear hW1 hN hNB
  go_enter Try.func6, Try.ntmps6
  go_wp2_with fail
  refine hn.mono ?_
  rintro e w1 ⟨rfl, rfl⟩
  go_wp2_with fail
  refine (say_ok HB1.out 1 ⟨#[104, 105]⟩ (by decide) (by decide) (by decide) (by decide)).mono ?_
  rintro e w2 ⟨rfl, lv2, hB2, hC2, hk2⟩
  have HB2 := Lib.hid hB2
  have hC2' : Chg [w.heap.size + 1] w1 w2 := by simpa [Value.ownBlock] using hC2
  have HC2 := Lib.hid hC2'
  clear hB2 hC2 hC2' hk2
  go_wp2_with fail
  refine (feed_ok HB2.out 0 (by simp) ⟨#[120]⟩ (by simp; decide)).mono ?_
  rintro e w3 ⟨rfl, hB3, hC3⟩
  have hB3' : Bd w3 (w.heap.size + 1) w.heap.size lv2 [(1, ⟨#[104, 105]⟩)] [⟨#[120]⟩, ⟨#[]⟩] := by
    have e : (⟨#[]⟩ ++ ⟨#[120]⟩ : ByteArray) = ⟨#[120]⟩ := by decide
    simpa [List.replicate, e] using hB3
  have HB3 := Lib.hid hB3'
  have HC3 := Lib.hid hC3
  clear hB3 hC3 hB3'
  go_wp2_with fail
  have hh : Calls Try.prog 11 #[.pointer (some ⟨w.heap.size + 1, 0, none⟩), .int .i64 0] w3 fun e w' => e = .returned (.tuple #[.int .u8 120, .int .i64 0]) ∧ (∃ I, Bd w' (w.heap.size + 1) w.heap.size lv2 [(1, ⟨#[104, 105]⟩)] I) ∧ Chg [w.heap.size] w3 w' := by
    refine (hear_ok HB3.out 0 (by simp) (by decide)).mono ?_
    rintro e w' ⟨rfl, h1, h2⟩
    exact ⟨rfl, ⟨_, h1⟩, h2⟩
  refine hh.mono ?_
  rintro e w4 ⟨rfl, ⟨I4, hB4⟩, hC4⟩
  have HB4 := Lib.hid hB4
  have HC4 := Lib.hid hC4
  clear hB4 hC4 hh hn
  go_wp2_with fail
  refine (lines_any HB4.out).mono ?_
  rintro e w5 ⟨v5, rfl, ho5, hB5⟩
  obtain ⟨g5, cap5, rfl, -, -⟩ := ho5.form (by simp)
  have HB5 := Lib.hid hB5
  clear hB5 ho5
  go_wp2_with fail
  refine (lines_any (HB4.out.keep (Below.chg HB5.out []) (by simp))).mono ?_
  rintro e w6 ⟨v6, rfl, ho6, hB6⟩
  obtain ⟨g6, cap6, rfl, -, -⟩ := ho6.form (by simp)
  have c0 : w6.cell? ⟨g6, 0, none⟩ = some (.int .i64 1) := ho6.cells rfl 0 _ rfl
  have c1 : w6.cell? ⟨g6, 1, none⟩ = some (.string ⟨#[104, 105]⟩) := ho6.cells rfl 1 _ rfl
  have HB6 := Lib.hid hB6
  clear hB6 ho6
  go_wp2
  go_ret
  refine ⟨rfl, ?_⟩
  have b4 : Below w.heap.size w w4 := by
    have hs := HNB.out.size
    refine HNB.out.trans (((HC2.out.below (n := w.heap.size) (by simp) hs).trans (HC3.out.below (n := w.heap.size) (by simp) ?_)).trans (HC4.out.below (n := w.heap.size) (by simp) ?_))
    · exact Nat.le_trans hs HC2.out.size
    · exact Nat.le_trans (Nat.le_trans hs HC2.out.size) HC3.out.size
  exact (b4.trans (HB5.out.mono b4.size)).trans (HB6.out.mono (Nat.le_trans b4.size HB5.out.size))
end Go.Proofs.L
