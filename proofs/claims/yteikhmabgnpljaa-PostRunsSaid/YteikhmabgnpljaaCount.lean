/- Proved here: lemmas and contracts (Count) for the laws of this seat, for all values of the stated types; no further condition. -/
import Derived.Test.YteikhmabgnpljaaPost
open Go Go.RowKit Go.Lib Go.Conc
namespace Go.Proofs.L
@[go_sem] theorem len_nil (w : World) : (Builtin.len_ #[54] 3 #[.chan none]).run Try.prog w = .ok (goInt 0) w := by
  simp [Builtin.len_, run_underlying Try.underlying54]
theorem count_nil (i : Int) (w : World) : Calls Try.prog 10 #[.pointer none, .int .i64 i] w fun e w' => e = .returned (.int .i64 0) ∧ w' = w := by
  go_enter Try.func10, Try.ntmps10
  go_wp2_with fail
  refine (box_nil _ _).mono ?_
  rintro e w' ⟨rfl, rfl⟩
  go_wp2
  go_ret
  exact ⟨rfl, rfl⟩
theorem count_out {w pb g cap C B} (h : Po w pb g cap C B) (i : Int) (hi : ¬ (0 ≤ i ∧ i < C.length)) : Calls Try.prog 10 #[.pointer (some ⟨pb, 0, none⟩), .int .i64 i] w fun e w' => e = .returned (.int .i64 0) ∧ w' = w := by
  have H := Lib.hid (box_out h i hi)
  clear h hi
  go_enter Try.func10, Try.ntmps10
  go_wp2_with fail
  refine H.out.mono ?_
  rintro e w' ⟨rfl, rfl⟩
  go_wp2
  go_ret
  exact ⟨rfl, rfl⟩
theorem count_in {w pb g cap C B} (h : Po w pb g cap C B) (i : Nat) (hi : i < C.length) : Calls Try.prog 10 #[.pointer (some ⟨pb, 0, none⟩), .int .i64 i] w fun e w' => e = .returned (.int .i64 (B.getD i []).length) ∧ w' = w := by
  have H := Lib.hid (box_in h i hi)
  obtain ⟨s, r, hb⟩ := h.box i hi
  obtain ⟨c, hcc⟩ : ∃ c, c = C[i] := ⟨_, rfl⟩
  rw [← hcc] at hb H
  have hs : (bufC (B.getD i [])).size = (B.getD i []).length := by simp [bufC]
  generalize B.getD i [] = L at *
  generalize bufC L = b at *
  have HB := Lib.hid hb
  have HS := Lib.hid hs
  clear h hi hcc hb hs
  go_enter Try.func10, Try.ntmps10
  go_wp2_with fail
  refine H.out.mono ?_
  rintro e w' ⟨rfl, rfl⟩
  have hl := fun ty => run_len_chan (P := Try.prog) 54 ty Try.underlying54 HB.out
  rw [HS.out] at hl
  go_wp2
  go_ret
  exact ⟨rfl, rfl⟩
end Go.Proofs.L
