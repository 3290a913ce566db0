/- Proved here: lemmas and contracts (Regs) for the laws of this seat, for all values of the stated types; no further condition. -/
import Derived.Test.YtdccfeideihmiaaDoorForm
open Go Go.RowKit Go.Lib
namespace Go.Proofs.L
def regB (x : Int) : Bool := decide (0 ≤ x) && decide (x ≤ 31)
theorem reg_any {w : World} {B n c : Nat} (l : List Int) (hl : l.length = n) (hn : n < 100) (hc : ∀ (j : Nat) (u : Int), l[j]? = some u → w.cell? ⟨B, j, none⟩ = some (.int .i64 u)) :
    Calls Tryd.prog 34 #[.slice (some ⟨B, 0, none⟩) n c] w fun e w' => e = .returned (.bool (l.all regB)) ∧ w' = w := by
  have HC := Lib.hid hc
  have HL := Lib.hid hl
  clear hc hl
  go_enter Tryd.func34, Tryd.ntmps34
  go_wp2_with fail
  go_loopw [7, 4] (fun i o wr => ∃ k : Nat, k ≤ n ∧ i = .int .i64 k ∧ wr = w ∧ (l.take k).all regB = true) (fun i _ _ => n - (intOf i).toNat)
  case atStart => exact ⟨0, by omega, rfl, rfl, rfl⟩
  case round =>
    obtain ⟨k, hk, rfl, rfl, hall⟩ := hrel
    have HA := Lib.hid hall
    clear hall
    by_cases hk2 : k < n
    · have dk : decide ((k : Int) < (n : Int)) = true := by simp; omega
      have hkI : (k : Int) < (n : Int) := by omega
      have hkl : k < l.length := by have := HL.out; omega
      obtain ⟨u, hu⟩ : ∃ u, l[k]? = some u := ⟨_, List.getElem?_eq_getElem hkl⟩
      have ck := HC.out k u hu
      have ht : l.take (k + 1) = l.take k ++ [u] := by
        rw [List.take_add_one, hu]; rfl
      have HU := Lib.hid hu
      have HT := Lib.hid ht
      clear hu ht hkl
      by_cases h0 : u < 0
      · have d0 : decide (u < 0) = true := by simpa using h0
        go_wp2
        go_ret
        refine ⟨?_, rfl⟩
        have : l.all regB = false := by
          rw [Bool.eq_false_iff]
          intro hh
          have := List.all_eq_true.1 hh u (List.mem_of_getElem? HU.out)
          simp [regB] at this; omega
        rw [this]; rfl
      · have d0 : decide (u < 0) = false := by simpa using h0
        by_cases h1 : u > 31
        · have d1 : decide (u > 31) = true := by simpa using h1
          have d2 : decide (31 < u) = true := by simpa using h1
          go_wp2
          go_ret
          refine ⟨?_, rfl⟩
          have : l.all regB = false := by
            rw [Bool.eq_false_iff]
            intro hh
            have := List.all_eq_true.1 hh u (List.mem_of_getElem? HU.out)
            simp [regB] at this; omega
          rw [this]; rfl
        · have d1 : decide (u > 31) = false := by simpa using h1
          have d2 : decide (31 < u) = false := by simpa using h1
          go_wp2
          refine ⟨⟨k + 1, by omega, by go_num, by first | rfl | trivial, ?_⟩, by simp only [intOf]; omega⟩
          rw [HT.out, List.all_append, HA.out]
          simp [regB]; omega
    · obtain rfl : k = n := by omega
      have dk : decide ((k : Int) < (k : Int)) = false := by simp
      go_wp2
      go_ret
      refine ⟨?_, rfl⟩
      have := HA.out
      rw [List.take_of_length_le (by have := HL.out; omega)] at this
      rw [this]; rfl
theorem fits_any (x n : Nat) (hx : x < 4294967296) (hn : n = 12 ∨ n = 13 ∨ n = 21) (w : World) : Calls Tryd.prog 35 #[.int .u32 (x : Int), .int .i64 n] w fun e w' => e = .returned (.bool (decide (sx n x = x))) ∧ w' = w := by
  have k : ∀ a b : Nat, ((a : Int) == (b : Int)) = decide (a = b) := fun a b => by rw [Bool.eq_iff_iff]; simp; omega
  have k2 : ∀ (n : Nat), Ending.returned (Value.bool ((sx n x : Int) == (x : Int))) = Ending.returned (Value.bool (decide (sx n x = x))) := fun n => by rw [k]
  rcases hn with rfl | rfl | rfl
  · have e := sx12 x
    have K := Lib.hid k2
    clear k k2
    go_enter Tryd.func35, Tryd.ntmps35
    go_wp2
    go_ret
    exact ⟨K.out 12, rfl⟩
  · have e := sx13 x
    have K := Lib.hid k2
    clear k k2
    go_enter Tryd.func35, Tryd.ntmps35
    go_wp2
    go_ret
    exact ⟨K.out 13, rfl⟩
  · have e := sx21 x
    have K := Lib.hid k2
    clear k k2
    go_enter Tryd.func35, Tryd.ntmps35
    go_wp2
    go_ret
    exact ⟨K.out 21, rfl⟩
end Go.Proofs.L
