/- Proved here: lemmas and contracts (Nil) for the laws of this seat, for all values of the stated types; no further condition. -/
import Derived.Test.YtefabfijlehfdaaBoard
open Go Go.RowKit Go.Lib
namespace Go.Proofs.L
theorem feed_nil (i : Int) (s : ByteArray) (w : World) : Calls Try.prog 8 #[.pointer none, .int .i64 i, .string s] w fun e w' => e = .returned (.int .i64 1) ∧ w' = w := by
  go_enter Try.func8, Try.ntmps8
  go_wp2_with fail
  refine (has_nil i w).mono ?_
  rintro e w1 ⟨rfl, rfl⟩
  go_wp2
  go_ret
  exact ⟨rfl, rfl⟩
theorem say_nil (i : Int) (s : ByteArray) (w : World) : Calls Try.prog 9 #[.pointer none, .int .i64 i, .string s] w fun e w' => e = .returned (.int .i64 1) ∧ w' = w := by
  go_enter Try.func9, Try.ntmps9
  go_wp2_with fail
  refine (has_nil i w).mono ?_
  rintro e w1 ⟨rfl, rfl⟩
  go_wp2
  go_ret
  exact ⟨rfl, rfl⟩
theorem lines_nil  (w : World) : Calls Try.prog 10 #[.pointer none] w fun e w' => e = .returned (.slice none 0 0) ∧ w' = w := by
  go_enter Try.func10, Try.ntmps10
  go_wp2
  go_ret
  exact ⟨rfl, rfl⟩
theorem hear_nil (i : Int) (w : World) : Calls Try.prog 11 #[.pointer none, .int .i64 i] w fun e w' => e = .returned (.tuple #[.int .u8 0, .int .i64 1]) ∧ w' = w := by
  go_enter Try.func11, Try.ntmps11
  go_wp2_with fail
  refine (has_nil i w).mono ?_
  rintro e w1 ⟨rfl, rfl⟩
  go_wp2
  go_ret2
  exact ⟨rfl, rfl⟩
theorem input_nil (i : Int) (w : World) : Calls Try.prog 12 #[.pointer none, .int .i64 i] w fun e w' => e = .returned (.string ⟨#[]⟩) ∧ w' = w := by
  go_enter Try.func12, Try.ntmps12
  go_wp2_with fail
  refine (has_nil i w).mono ?_
  rintro e w1 ⟨rfl, rfl⟩
  go_wp2
  go_ret
  exact ⟨rfl, rfl⟩
theorem waits_nil (i : Int) (w : World) : Calls Try.prog 17 #[.pointer none, .int .i64 i] w fun e w' => e = .returned (.int .i64 0) ∧ w' = w := by
  go_enter Try.func17, Try.ntmps17
  go_wp2_with fail
  refine (has_nil i w).mono ?_
  rintro e w1 ⟨rfl, rfl⟩
  go_wp2
  go_ret
  exact ⟨rfl, rfl⟩
theorem clear_nil (w : World) : Calls Try.prog 16 #[.pointer none] w fun e w' => e = .returned (.tuple #[]) ∧ w' = w := by
  go_enter Try.func16, Try.ntmps16
  go_wp2
  go_end0
  exact ⟨rfl, rfl⟩
def inS (I : List ByteArray) (i : Int) : ByteArray := if inB i I.length then I.getD i.toNat ⟨#[]⟩ else ⟨#[]⟩
theorem input_any {w bb ib lv L I} (h : Bd w bb ib lv L I) (i : Int) : Calls Try.prog 12 #[.pointer (some ⟨bb, 0, none⟩), .int .i64 i] w fun e w' => e = .returned (.string (inS I i)) ∧ w' = w := by
  have hh := has_any h i
  cases hb : inB i I.length with
  | false =>
    have hs : inS I i = ⟨#[]⟩ := by unfold inS; rw [hb]; rfl
    rw [hb] at hh
    rw [hs]
    clear hb hs
    go_enter Try.func12, Try.ntmps12
    go_wp2_with fail
    refine hh.mono ?_
    rintro e w1 ⟨rfl, rfl⟩
    go_wp2
    go_ret
    exact ⟨rfl, rfl⟩
  | true =>
    rw [hb] at hh
    have hi : 0 ≤ i ∧ i < I.length := by simpa [inB] using hb
    obtain ⟨k, rfl⟩ := Int.eq_ofNat_of_zero_le hi.1
    have hk : k < I.length := by omega
    have c2 := h.c2
    have ci := h.ci k hk
    have l4 := h.len4
    have hs : inS I (k : Int) = I[k] := by unfold inS; rw [hb]; simp [hk]
    rw [hs]
    obtain ⟨n, hn⟩ : ∃ n, n = I.length := ⟨_, rfl⟩
    obtain ⟨s, hs'⟩ : ∃ s, s = I[k] := ⟨_, rfl⟩
    rw [← hs'] at ci ⊢
    rw [← hn] at c2 l4
    have hk2 : k < n := by omega
    clear hs hs' hn hb hi hk h
    go_enter Try.func12, Try.ntmps12
    go_wp2_with fail
    refine hh.mono ?_
    rintro e w1 ⟨rfl, rfl⟩
    go_wp2
    go_ret
    exact ⟨rfl, rfl⟩
theorem waits_any {w bb ib lv L I} (h : Bd w bb ib lv L I) (i : Int) : Calls Try.prog 17 #[.pointer (some ⟨bb, 0, none⟩), .int .i64 i] w fun e w' => e = .returned (.int .i64 ((inS I i).size : Int)) ∧ w' = w := by
  have hh := has_any h i
  cases hb : inB i I.length with
  | false =>
    have hs : inS I i = ⟨#[]⟩ := by unfold inS; rw [hb]; rfl
    rw [hb] at hh
    rw [hs]
    clear hb hs
    go_enter Try.func17, Try.ntmps17
    go_wp2_with fail
    refine hh.mono ?_
    rintro e w1 ⟨rfl, rfl⟩
    go_wp2
    go_ret
    exact ⟨rfl, rfl⟩
  | true =>
    rw [hb] at hh
    have hi : 0 ≤ i ∧ i < I.length := by simpa [inB] using hb
    obtain ⟨k, rfl⟩ := Int.eq_ofNat_of_zero_le hi.1
    have hk : k < I.length := by omega
    have c2 := h.c2
    have ci := h.ci k hk
    have l4 := h.len4
    have hs : inS I (k : Int) = I[k] := by unfold inS; rw [hb]; simp [hk]
    rw [hs]
    obtain ⟨n, hn⟩ : ∃ n, n = I.length := ⟨_, rfl⟩
    obtain ⟨s, hs'⟩ : ∃ s, s = I[k] := ⟨_, rfl⟩
    rw [← hs'] at ci ⊢
    rw [← hn] at c2 l4
    have hk2 : k < n := by omega
    clear hs hs' hn hb hi hk h
    go_enter Try.func17, Try.ntmps17
    go_wp2_with fail
    refine hh.mono ?_
    rintro e w1 ⟨rfl, rfl⟩
    go_wp2
    go_ret
    exact ⟨rfl, rfl⟩
end Go.Proofs.L
