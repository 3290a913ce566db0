/- Proved here: lemmas and contracts (RefPower) for the laws of this seat, for all values of the stated types; no further condition. -/
import Derived.Test.YtlceohlbpgcmpaaDoorOpenArgs
open Go Go.RowKit Go.Lib
namespace Go.Proofs.L
/-! powers of two, by their ones (plain law) -/
set_option maxRecDepth 100000 in
theorem pop_one : ∀ k : Nat, k < 256 → popN k = 1 → (k = 1 ∨ k = 2 ∨ k = 4 ∨ k = 8 ∨ k = 16 ∨ k = 32 ∨ k = 64 ∨ k = 128) := by decide +kernel
set_option maxRecDepth 100000 in
theorem ones_pow : ∀ k : Nat, k < 32 → onesN (2 ^ k) = 1 := by decide +kernel
theorem ones_iff (x : Nat) (hx : x < 4294967296) : onesN x = 1 ↔ ∃ k, k < 32 ∧ x = 2 ^ k := by
  constructor
  · intro h
    unfold onesN at h
    have za := pop_zero (x / 16777216) (by omega)
    have zb := pop_zero (x / 65536 % 256) (by omega)
    have zc := pop_zero (x / 256 % 256) (by omega)
    have zd := pop_zero (x % 256) (by omega)
    have oa := pop_one (x / 16777216) (by omega)
    have ob := pop_one (x / 65536 % 256) (by omega)
    have oc := pop_one (x / 256 % 256) (by omega)
    have od := pop_one (x % 256) (by omega)
    generalize popN (x / 16777216) = a at *
    generalize popN (x / 65536 % 256) = b at *
    generalize popN (x / 256 % 256) = c at *
    generalize popN (x % 256) = d at *
    have h4 : (a = 1 ∧ b = 0 ∧ c = 0 ∧ d = 0) ∨ (a = 0 ∧ b = 1 ∧ c = 0 ∧ d = 0) ∨ (a = 0 ∧ b = 0 ∧ c = 1 ∧ d = 0) ∨ (a = 0 ∧ b = 0 ∧ c = 0 ∧ d = 1) := by omega
    rcases h4 with ⟨h1, h2, h3, h4⟩ | ⟨h1, h2, h3, h4⟩ | ⟨h1, h2, h3, h4⟩ | ⟨h1, h2, h3, h4⟩
    · have := zb h2; have := zc h3; have := zd h4
      rcases oa h1 with h | h | h | h | h | h | h | h
      · exact ⟨24, by omega, by omega⟩
      · exact ⟨25, by omega, by omega⟩
      · exact ⟨26, by omega, by omega⟩
      · exact ⟨27, by omega, by omega⟩
      · exact ⟨28, by omega, by omega⟩
      · exact ⟨29, by omega, by omega⟩
      · exact ⟨30, by omega, by omega⟩
      · exact ⟨31, by omega, by omega⟩
    · have := za h1; have := zc h3; have := zd h4
      rcases ob h2 with h | h | h | h | h | h | h | h
      · exact ⟨16, by omega, by omega⟩
      · exact ⟨17, by omega, by omega⟩
      · exact ⟨18, by omega, by omega⟩
      · exact ⟨19, by omega, by omega⟩
      · exact ⟨20, by omega, by omega⟩
      · exact ⟨21, by omega, by omega⟩
      · exact ⟨22, by omega, by omega⟩
      · exact ⟨23, by omega, by omega⟩
    · have := za h1; have := zb h2; have := zd h4
      rcases oc h3 with h | h | h | h | h | h | h | h
      · exact ⟨8, by omega, by omega⟩
      · exact ⟨9, by omega, by omega⟩
      · exact ⟨10, by omega, by omega⟩
      · exact ⟨11, by omega, by omega⟩
      · exact ⟨12, by omega, by omega⟩
      · exact ⟨13, by omega, by omega⟩
      · exact ⟨14, by omega, by omega⟩
      · exact ⟨15, by omega, by omega⟩
    · have := za h1; have := zb h2; have := zc h3
      rcases od h4 with h | h | h | h | h | h | h | h
      · exact ⟨0, by omega, by omega⟩
      · exact ⟨1, by omega, by omega⟩
      · exact ⟨2, by omega, by omega⟩
      · exact ⟨3, by omega, by omega⟩
      · exact ⟨4, by omega, by omega⟩
      · exact ⟨5, by omega, by omega⟩
      · exact ⟨6, by omega, by omega⟩
      · exact ⟨7, by omega, by omega⟩
  · rintro ⟨k, hk, rfl⟩
    exact ones_pow k hk
theorem ones_four (x : Nat) (hx : x < 4294967296) (h4 : x % 4 = 0) : onesN x = 1 ↔ ∃ k, x = 4 * 2 ^ k := by
  rw [ones_iff x hx]
  constructor
  · rintro ⟨k, hk, rfl⟩
    match k, h4 with
    | 0, h => exact absurd h (by decide)
    | 1, h => exact absurd h (by decide)
    | k + 2, _ => exact ⟨k, by rw [Nat.pow_add]; omega⟩
  · rintro ⟨k, rfl⟩
    have e : 4 * 2 ^ k = 2 ^ (k + 2) := by rw [Nat.pow_add]; omega
    refine ⟨k + 2, ?_, e⟩
    apply Nat.lt_of_not_le
    intro hle
    have := Nat.pow_le_pow_right (n := 2) (by decide) hle
    rw [e] at hx
    omega
theorem or_add (st sz k : Nat) (hk : sz = 4 * 2 ^ (k + 1)) (h : st % sz = 0) : (st / 4) ||| (sz / 8 - 1) = st / 4 + sz / 8 - 1 := by
  obtain ⟨q, rfl⟩ : ∃ q, st = sz * q := ⟨st / sz, by have := Nat.div_add_mod st sz; omega⟩
  have hp : 0 < 2 ^ k := Nat.two_pow_pos k
  have e1 : sz = 8 * 2 ^ k := by rw [hk, Nat.pow_succ]; omega
  have e2 : sz / 8 - 1 = 2 ^ k - 1 := by omega
  have e3 : sz * q / 4 = 2 ^ (k + 1) * q := by rw [hk, Nat.mul_assoc, Nat.mul_div_cancel_left _ (by decide)]
  rw [e2, e3, ← Nat.two_pow_add_eq_or_of_lt (by rw [Nat.pow_succ]; omega)]
  omega
/-- a grant's entries as the document's answer reckons them: P is the power that was found -/
theorem one_ref (st sz : Nat) (rt : Int) (P : Nat) (hx : sz < 4294967296) (h4 : sz % 4 = 0) (hP : P = sz ↔ ∃ k, sz = 4 * 2 ^ k) :
    oneN ⟨st, sz, rt⟩ = if sz = 4 then [⟨2, rt, st / 4⟩] else if P = sz ∧ st % sz = 0 then [⟨3, rt, st / 4 + sz / 8 - 1⟩] else [⟨0, 0, st / 4⟩, ⟨1, rt, (st + sz) / 4⟩] := by
  unfold oneN
  simp only []
  by_cases c : sz = 4
  · rw [if_pos c, if_pos c]
  · rw [if_neg c, if_neg c]
    have hiff : onesN sz = 1 ↔ P = sz := (ones_four sz hx h4).trans hP.symm
    by_cases c2 : P = sz ∧ st % sz = 0
    · rw [if_pos ⟨hiff.2 c2.1, c2.2⟩, if_pos c2]
      obtain ⟨k, hk⟩ := hP.1 c2.1
      cases k with
      | zero => exact absurd hk (by omega)
      | succ k => rw [or_add st sz k hk c2.2]
    · rw [if_neg (fun h => c2 ⟨hiff.1 h.1, h.2⟩), if_neg c2]
theorem pow_found (sz j : Nat) (hle : sz ≤ 4 * 2 ^ j) (h : j = 0 ∨ 2 * 2 ^ j < sz) (h0 : sz ≠ 0) (h4 : sz % 4 = 0) : 4 * 2 ^ j = sz ↔ ∃ k, sz = 4 * 2 ^ k := by
  constructor
  · intro h; exact ⟨j, h.symm⟩
  · rintro ⟨k, rfl⟩
    rcases h with rfl | h
    · have := Nat.two_pow_pos k; omega
    · have e : k = j := by
        rcases Nat.lt_trichotomy k j with hlt | rfl | hlt
        · have := Nat.pow_le_pow_right (n := 2) (by decide) (show k + 1 ≤ j from hlt)
          rw [Nat.pow_succ] at this; omega
        · rfl
        · have := Nat.pow_le_pow_right (n := 2) (by decide) (show j + 1 ≤ k from hlt)
          rw [Nat.pow_succ] at this
          have := Nat.two_pow_pos j; omega
      rw [e]
end Go.Proofs.L
