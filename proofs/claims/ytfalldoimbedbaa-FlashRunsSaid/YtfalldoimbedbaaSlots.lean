/- Proved here: lemmas and contracts (Slots) for the laws of this seat, for all values of the stated types; no further condition. -/
import Derived.Test.YtfalldoimbedbaaNoneWalk
open Go Go.RowKit Go.Lib
namespace Go.Proofs.L
/-- a slot's number, if it counts -/
def sv (f : Nat → Nat) (i : Nat) : Nat := if good f (i / 5) (i % 5) then f (16 * (i / 5) + 3 * (i % 5)) else 0
theorem cnt_succ (f : Nat → Nat) (i : Nat) : cnt f (i + 1) = max (cnt f i) (sv f i) := by
  rw [cnt]; unfold sv; split
  · rfl
  · omega
theorem sv_le (f : Nat → Nat) : ∀ m i, i < m → sv f i ≤ cnt f m
  | m + 1, i, h => by
    rw [cnt_succ]
    rcases Nat.lt_or_ge i m with h1 | h1
    · have := sv_le f m i h1; omega
    · obtain rfl : i = m := by omega
      omega
theorem cnt_att (f : Nat → Nat) : ∀ m, cnt f m = 0 ∨ ∃ i, i < m ∧ cnt f m = sv f i
  | 0 => .inl rfl
  | m + 1 => by
    rw [cnt_succ]
    rcases Nat.le_total (cnt f m) (sv f m) with h | h
    · exact .inr ⟨m, by omega, by omega⟩
    · rcases cnt_att f m with h0 | ⟨i, hi, h1⟩
      · exact .inl (by omega)
      · exact .inr ⟨i, by omega, by omega⟩
theorem cnt_one {f f' : Nat → Nat} {j : Nat} (h0 : sv f j = 0) (h : ∀ i, i ≠ j → i < 10 → sv f' i = sv f i) : ∀ m, m ≤ 10 → cnt f' m = max (cnt f m) (if j < m then sv f' j else 0)
  | 0, _ => by simp [cnt]
  | m + 1, hm => by
    rw [cnt_succ, cnt_succ, cnt_one h0 h m (by omega)]
    by_cases hj : m = j
    · subst hj
      rw [h0, if_neg (by omega), if_pos (by omega)] <;> omega
    · rw [h m hj (by omega)]
      by_cases hjm : j < m
      · rw [if_pos hjm, if_pos (by omega)] <;> omega
      · rw [if_neg hjm, if_neg (by omega)] <;> omega
theorem counter_one {f f' : Nat → Nat} {j : Nat} (hj : j < 10) (h0 : sv f j = 0) (h : ∀ i, i ≠ j → i < 10 → sv f' i = sv f i) : counter f' = max (counter f) (sv f' j) := by
  have := cnt_one h0 h 10 (Nat.le_refl _)
  rw [if_pos hj] at this
  exact this
/-- a slot hangs on its three words -/
theorem sv_congr {f f' : Nat → Nat} {i : Nat} (h : ∀ d, d < 3 → f' (16 * (i / 5) + 3 * (i % 5) + d) = f (16 * (i / 5) + 3 * (i % 5) + d)) : sv f' i = sv f i := by
  have h0 := h 0 (by decide)
  have h1 := h 1 (by decide)
  have h2 := h 2 (by decide)
  simp only [Nat.add_zero] at h0
  unfold sv good
  rw [h0, h1, h2]
theorem sv_zero {f : Nat → Nat} {i : Nat} (h : f (16 * (i / 5) + 3 * (i % 5) + 2) ≠ 0) : sv f i = 0 := by
  unfold sv good; simp [h]
theorem slot_div (s k : Nat) (hk : k < 5) : (5 * s + k) / 5 = s ∧ (5 * s + k) % 5 = k := by omega
/-- what is written in one slot leaves the others -/
theorem sv_other {f f' : Nat → Nat} {s k : Nat} (hs : s < 2) (hk : k < 5) (h : ∀ a, (a < 16 * s + 3 * k ∨ 16 * s + 3 * k + 2 < a) → f' a = f a) : ∀ i, i ≠ 5 * s + k → i < 10 → sv f' i = sv f i := by
  intro i hi h10
  refine sv_congr fun d hd => h _ ?_
  omega
theorem fresh_of {f : Nat → Nat} {s k : Nat} (h : fresh f s k = true) : f (16 * s + 3 * k) = 4294967295 ∧ f (16 * s + 3 * k + 1) = 4294967295 ∧ f (16 * s + 3 * k + 2) = 4294967295 := by
  unfold fresh at h; simp at h; exact ⟨h.1.1, h.1.2, h.2⟩
theorem rm_fresh (f : Nat → Nat) (s : Nat) : ∀ m, rm f s m < m → fresh f s (rm f s m) = true
  | m + 1, h => by
    unfold rm at h ⊢
    split
    · rename_i hf
      rw [if_pos hf] at h
      rcases Nat.lt_or_ge (rm f s m) m with h1 | h1
      · exact rm_fresh f s m h1
      · have := rm_le f s m
        have e : rm f s m = m := by omega
        rw [e]; exact hf
    · rename_i hf
      rw [if_neg hf] at h; omega
theorem or_zero_iff (a m : Nat) : a ||| m = 0 ↔ a = 0 ∧ m = 0 := Nat.or_eq_zero_iff
/-- a sector that has not the newest number may be erased, if only in parts -/
theorem counter_erase {f : Nat → Nat} {s : Nat} (hs : s = newest f) (m : Nat) : counter (eraseW f (16 * (1 - s)) m 16) = counter f := by
  have hs2 : s < 2 := by rw [hs]; exact newest_lt f
  have hin : ∀ i, i < 10 → i / 5 = s → sv (eraseW f (16 * (1 - s)) m 16) i = sv f i := fun i hi he => sv_congr fun d hd => by
    unfold eraseW; rw [if_neg (by omega)]
  have hle : ∀ i, i < 10 → sv (eraseW f (16 * (1 - s)) m 16) i ≤ sv f i := fun i hi => by
    by_cases he : i / 5 = s
    · rw [hin i hi he]; exact Nat.le_refl _
    · by_cases hm : m = 0
      · subst hm
        rw [sv_congr (f := f) (f' := eraseW f (16 * (1 - s)) 0 16) fun d hd => by unfold eraseW; split <;> simp]; exact Nat.le_refl _
      · rw [sv_zero]
        · omega
        · unfold eraseW; rw [if_pos (by omega)]
          intro h
          exact hm ((or_zero_iff _ _).1 h).2
  have h1 : counter (eraseW f (16 * (1 - s)) m 16) ≤ counter f := by
    rcases cnt_att (eraseW f (16 * (1 - s)) m 16) 10 with h | ⟨i, hi, h⟩
    · unfold counter; rw [h]; omega
    · unfold counter; rw [h]
      exact Nat.le_trans (hle i hi) (sv_le f 10 i hi)
  have h2 : counter f ≤ counter (eraseW f (16 * (1 - s)) m 16) := by
    by_cases h0 : counter f = 0
    · omega
    · obtain ⟨i, hi, hv, he⟩ : ∃ i, i < 10 ∧ counter f = sv f i ∧ i / 5 = s := by
        by_cases hn : (newAt f 0 || newAt f 1 || newAt f 2 || newAt f 3 || newAt f 4) = true
        · have hs1 : s = 1 := by rw [hs]; unfold newest; rw [if_pos hn]
          have : ∃ k, k < 5 ∧ newAt f k = true := by
            simp only [Bool.or_eq_true] at hn
            rcases hn with (((h | h) | h) | h) | h
            · exact ⟨0, by decide, h⟩
            · exact ⟨1, by decide, h⟩
            · exact ⟨2, by decide, h⟩
            · exact ⟨3, by decide, h⟩
            · exact ⟨4, by decide, h⟩
          obtain ⟨k, hk, hna⟩ := this
          unfold newAt at hna
          simp only [Bool.and_eq_true, decide_eq_true_eq] at hna
          refine ⟨5 + k, by omega, ?_, by omega⟩
          unfold sv
          rw [show (5 + k) / 5 = 1 by omega, show (5 + k) % 5 = k by omega, if_pos hna.1, ← hna.2]
        · have hs0 : s = 0 := by rw [hs]; unfold newest; rw [if_neg hn]
          rcases cnt_att f 10 with h | ⟨i, hi, h⟩
          · exact absurd h h0
          · refine ⟨i, hi, h, ?_⟩
            rcases Nat.lt_or_ge i 5 with h5 | h5
            · omega
            · exfalso
              apply hn
              have hg : good f 1 (i - 5) = true := by
                cases hg : good f 1 (i - 5) with
                | true => rfl
                | false =>
                  exfalso; apply h0
                  unfold counter; rw [h]; unfold sv
                  rw [show i / 5 = 1 by omega, show i % 5 = i - 5 by omega, hg]; rfl
              have hna : newAt f (i - 5) = true := by
                unfold newAt
                rw [hg]
                simp only [Bool.true_and, decide_eq_true_eq]
                have : counter f = sv f i := h
                rw [this]
                unfold sv
                rw [show i / 5 = 1 by omega, show i % 5 = i - 5 by omega, if_pos hg]
              have h5 : i - 5 = 0 ∨ i - 5 = 1 ∨ i - 5 = 2 ∨ i - 5 = 3 ∨ i - 5 = 4 := by omega
              rcases h5 with e | e | e | e | e <;> rw [e] at hna <;> simp [hna]
      rw [hv, ← hin i hi he]
      exact sv_le _ 10 i hi
  omega
end Go.Proofs.L
