/- Proved here: lemmas and contracts (Send) for the laws of this seat, for all values of the stated types; no further condition. -/
import Derived.Test.YteikhmabgnpljaaCount
open Go Go.RowKit Go.Lib Go.Conc
namespace Go.Proofs.L
@[go_sem] theorem eql_chan_nil (w : World) : (binOp .eql 54 (.chan none) (.chan none)).run Try.prog w = .ok (.bool true) w := by kernel_rfl
@[go_sem] theorem eql_chan_some (c : Nat) (w : World) : (binOp .eql 54 (.chan (some c)) (.chan none)).run Try.prog w = .ok (.bool false) w := by kernel_rfl
theorem Chg.setChan {E a w} (h : Chg E a w) {c : Nat} (hp : c ∈ E ∨ a.heap.size ≤ c) (cap : Nat) (buf : Array Value) (cl : Bool) (s r : Nat) (tm : Bool) : Chg E a (w.setChan c cap buf cl s r tm) :=
  ⟨h.os, h.tape, h.output, by rw [size_setChan]; exact h.size, fun k hk hE => by
    rw [← h.block k hk hE]
    simp only [World.setChan]
    rw [Array.getElem?_setIfInBounds_ne]
    rintro rfl
    rcases hp with hp | hp
    · exact hE hp
    · omega⟩
/-- the world in which Send and so on ask for the box -/
def letW (w : World) (l : Int × ByteArray) : World := w.alloc (.cells #[.int .i64 l.1, .string l.2] 30)
theorem letW_chg (w l) : Chg [] w (letW w l) := (Chg.refl _ _).alloc _
theorem send_none {w : World} {pv : Value} {i : Int} (l : Int × ByteArray) (h : Calls Try.prog 14 #[pv, .int .i64 i] (letW w l) fun e w' => e = .returned (.chan none) ∧ w' = letW w l) :
    Calls Try.prog 8 #[pv, .int .i64 i, letV l] w fun e w' => e = .returned (.int .i64 1) ∧ w' = letW w l := by
  have H := Lib.hid h
  clear h
  unfold letV
  go_enter Try.func8, Try.ntmps8
  go_wp2_with fail
  refine H.out.mono ?_
  rintro e w' ⟨rfl, rfl⟩
  go_wp2
  go_ret
  exact ⟨rfl, rfl⟩
theorem send_text {w : World} {pv : Value} {i : Int} {c : Nat} (l : Int × ByteArray) (ht : ¬ (1 ≤ l.2.size ∧ l.2.size ≤ 16)) (h : Calls Try.prog 14 #[pv, .int .i64 i] (letW w l) fun e w' => e = .returned (.chan (some c)) ∧ w' = letW w l) :
    Calls Try.prog 8 #[pv, .int .i64 i, letV l] w fun e w' => e = .returned (.int .i64 1) ∧ w' = letW w l := by
  have H := Lib.hid h
  have c1 : (letW w l).cell? ⟨w.heap.size, 1, none⟩ = some (.string l.2) := by
    rw [row_cell (cs := #[.int .i64 l.1, .string l.2]) (by unfold letW; rw [row_alloc_at _ _ _ _ rfl])]; rfl
  clear h
  unfold letV
  obtain ⟨n, hn⟩ : ∃ n, n = l.2.size := ⟨_, rfl⟩
  rw [← hn] at ht
  by_cases h1 : n < 1
  · have d1 : decide ((n : Int) < 1) = true := by simp; omega
    go_enter Try.func8, Try.ntmps8
    go_wp2_with fail
    refine H.out.mono ?_
    rintro e w' ⟨rfl, rfl⟩
    rw [hn] at d1
    go_wp2
    go_ret
    exact ⟨rfl, rfl⟩
  · have d1 : decide ((n : Int) < 1) = false := by simp; omega
    have d2 : decide ((n : Int) > 16) = true := by simp; omega
    have d3 : decide (16 < (n : Int)) = true := by simp; omega
    go_enter Try.func8, Try.ntmps8
    go_wp2_with fail
    refine H.out.mono ?_
    rintro e w' ⟨rfl, rfl⟩
    rw [hn] at d1 d2 d3
    go_wp2
    go_ret
    exact ⟨rfl, rfl⟩
end Go.Proofs.L
