/- Proved here: lemmas and contracts (FeedNew) for the laws of this seat, for all values of the stated types; no further condition. -/
import Derived.Test.YtefabfijlehfdaaNoneWalk
open Go Go.RowKit Go.Lib
namespace Go.Proofs.L
theorem feed_full' {w bb ib lv L I} (h : Bd w bb ib lv L I) (k : Nat) (hk : k < I.length) (t : ByteArray) (ht : I[k].size + t.size ≤ 9223372036854775807) (hf : 64 < I[k].size + t.size) :
    Calls Try.prog 8 #[.pointer (some ⟨bb, 0, none⟩), .int .i64 (k : Int), .string t] w fun e w' => e = .returned (.int .i64 16) ∧ w' = w := by
  have hh := has_any h k
  rw [show inB (k : Int) I.length = true from by simp [inB, hk]] at hh
  have hsm := h.small I[k] (List.getElem_mem hk)
  have c2 := h.c2
  have ci := h.ci k hk
  have l4 := h.len4
  obtain ⟨n, hn⟩ : ∃ n, n = I.length := ⟨_, rfl⟩
  obtain ⟨s, hs'⟩ : ∃ s, s = I[k] := ⟨_, rfl⟩
  rw [← hs'] at ci hf hsm ht
  rw [← hn] at c2 l4 hk
  have k0 : (0 : Int) ≤ (k : Int) := Int.natCast_nonneg _
  have k1 : (k : Int) < (n : Int) := by omega
  clear hs' hn h
  have d1 : decide ((s.size : Int) + t.size > 64) = true := by simp; omega
  have d2 : decide (64 < (s.size : Int) + t.size) = true := by simp; omega
  go_enter Try.func8, Try.ntmps8
  go_wp2_with fail
  refine hh.mono ?_
  rintro e w1 ⟨rfl, rfl⟩
  go_wp2
  go_ret
  exact ⟨rfl, rfl⟩
/-- feeding an empty queue -/
theorem feed_new {w bb ib lv L I} (h : Bd w bb ib lv L I) (k : Nat) (hk : k < I.length) (he : I[k] = ⟨#[]⟩) (t : ByteArray) (ht : t.size ≤ maxLen) :
    Calls Try.prog 8 #[.pointer (some ⟨bb, 0, none⟩), .int .i64 (k : Int), .string t] w fun e w' => e = .returned (.int .i64 (if t.size ≤ 64 then 0 else 16)) ∧ Bd w' bb ib lv L (if t.size ≤ 64 then I.set k t else I) ∧ Chg [ib] w w' := by
  have hz : I[k].size = 0 := by rw [he]; rfl
  unfold maxLen at ht
  by_cases hf : t.size ≤ 64
  · rw [if_pos hf, if_pos hf]
    refine (feed_ok h k hk t (by omega)).mono ?_
    rintro e w' ⟨rfl, h1, h2⟩
    have e1 : I[k] ++ t = t := by rw [he]; exact ByteArray.empty_append
    rw [e1] at h1
    exact ⟨rfl, h1, h2⟩
  · rw [if_neg hf, if_neg hf]
    refine (feed_full' h k hk t (by omega) (by omega)).mono ?_
    rintro e w' ⟨rfl, rfl⟩
    exact ⟨rfl, h, Chg.refl _ _⟩
end Go.Proofs.L
