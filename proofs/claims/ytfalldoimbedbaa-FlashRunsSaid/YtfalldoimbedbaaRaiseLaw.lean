/- Proved here: lemmas and contracts (RaiseLaw) for the laws of this seat, for all values of the stated types; no further condition. -/
import Derived.Test.YtfalldoimbedbaaSlots
open Go Go.RowKit Go.Lib
namespace Go.Proofs.L
theorem ones_and (x : Nat) (h : x < 4294967296) : 4294967295 &&& x = x := by
  rw [Nat.and_comm, show (4294967295 : Nat) = 2 ^ 32 - 1 by rfl, Nat.and_two_pow_sub_one_eq_mod]; omega
theorem write_f (S : FS) (i x : Nat) : ∃ y, (S.write i x).f = up S.f i y ∧ (S.okB = true → y = S.f i &&& x) := by
  unfold FS.write
  split
  · exact ⟨_, rfl, fun _ => rfl⟩
  · rename_i h
    split
    · exact ⟨_, rfl, fun h1 => absurd h1 h⟩
    · refine ⟨S.f i, ?_, fun h1 => absurd h1 h⟩
      rw [S.step_f]; funext j; unfold up; split
      · rename_i e; rw [e]
      · rfl
theorem write_de (S : FS) (i x : Nat) : (S.write i x).de = !S.okB := by
  have h : S.step.de = !S.okB := by
    unfold FS.step FS.okB
    cases hd : S.de with
    | true => simp [hd]
    | false =>
      by_cases h0 : S.fu = 0
      · simp [h0]
      · by_cases h1 : 0 < S.fu
        · simp [h0, h1, hd]
        · simp [h0, h1, hd]
  unfold FS.write
  split
  · exact h
  · split <;> exact h
theorem erase_de (S : FS) (s : Nat) : (S.erase s).de = !S.okB := by
  have h := write_de S 0 0
  unfold FS.write at h
  unfold FS.erase
  split
  · rename_i ho; rw [if_pos ho] at h; exact h
  · rename_i ho
    rw [if_neg ho] at h
    split
    · rename_i hl; rw [if_pos hl] at h; exact h
    · rename_i hl; rw [if_neg hl] at h; exact h
theorem put_law {S : FS} {s k n : Nat} (hs : s < 2) (hk : k < 5) (hf : fresh S.f s k = true) (hn : n < 4294967296) (hc : counter S.f ≤ n) :
    (putE S (16 * s + 3 * k) n = 0 ∧ counter (putT S (16 * s + 3 * k) n).f = n) ∨
    (putE S (16 * s + 3 * k) n = 19 ∧ (putT S (16 * s + 3 * k) n).de = true ∧ (counter (putT S (16 * s + 3 * k) n).f = counter S.f ∨ counter (putT S (16 * s + 3 * k) n).f = n)) := by
  obtain ⟨f0, f1, f2⟩ := fresh_of hf
  obtain ⟨y1, w1, z1⟩ := write_f S (16 * s + 3 * k + 0) (px n 0)
  obtain ⟨y2, w2, z2⟩ := write_f (pS S (16 * s + 3 * k) n 1) (16 * s + 3 * k + 1) (px n 1)
  obtain ⟨y3, w3, z3⟩ := write_f (pS S (16 * s + 3 * k) n 2) (16 * s + 3 * k + 2) (px n 2)
  have d1 := write_de S (16 * s + 3 * k + 0) (px n 0)
  have d2 := write_de (pS S (16 * s + 3 * k) n 1) (16 * s + 3 * k + 1) (px n 1)
  have d3 := write_de (pS S (16 * s + 3 * k) n 2) (16 * s + 3 * k + 2) (px n 2)
  have p1 : pS S (16 * s + 3 * k) n 1 = S.write (16 * s + 3 * k + 0) (px n 0) := rfl
  have p2 : pS S (16 * s + 3 * k) n 2 = (pS S (16 * s + 3 * k) n 1).write (16 * s + 3 * k + 1) (px n 1) := rfl
  have p3 : pS S (16 * s + 3 * k) n 3 = (pS S (16 * s + 3 * k) n 2).write (16 * s + 3 * k + 2) (px n 2) := rfl
  rw [← p1] at w1 d1
  rw [← p2] at w2 d2
  rw [← p3] at w3 d3
  have e0 : pS S (16 * s + 3 * k) n 0 = S := rfl
  clear p1 p2 p3
  obtain ⟨hd1, hd2⟩ := slot_div s k hk
  have h0 : sv S.f (5 * s + k) = 0 := sv_zero (by rw [hd1, hd2, f2]; decide)
  unfold putE putT
  rw [e0]
  generalize pS S (16 * s + 3 * k) n 1 = T1 at *
  generalize pS S (16 * s + 3 * k) n 2 = T2 at *
  generalize pS S (16 * s + 3 * k) n 3 = T3 at *
  have o1 : ∀ a, (a < 16 * s + 3 * k ∨ 16 * s + 3 * k + 2 < a) → T1.f a = S.f a := fun a ha => by rw [w1]; unfold up; rw [if_neg (by omega)]
  have o2 : ∀ a, (a < 16 * s + 3 * k ∨ 16 * s + 3 * k + 2 < a) → T2.f a = S.f a := fun a ha => by rw [w2]; unfold up; rw [if_neg (by omega)]; exact o1 a ha
  have o3 : ∀ a, (a < 16 * s + 3 * k ∨ 16 * s + 3 * k + 2 < a) → T3.f a = S.f a := fun a ha => by rw [w3]; unfold up; rw [if_neg (by omega)]; exact o2 a ha
  have t12 : T1.f (16 * s + 3 * k + 2) = 4294967295 := by rw [w1]; unfold up; rw [if_neg (by omega)]; exact f2
  have t22 : T2.f (16 * s + 3 * k + 2) = 4294967295 := by rw [w2]; unfold up; rw [if_neg (by omega)]; exact t12
  have c1 := counter_one (by omega) h0 (sv_other hs hk o1)
  have c2 := counter_one (by omega) h0 (sv_other hs hk o2)
  have c3 := counter_one (by omega) h0 (sv_other hs hk o3)
  rw [sv_zero (by rw [hd1, hd2, t12]; decide)] at c1
  rw [sv_zero (by rw [hd1, hd2, t22]; decide)] at c2
  cases ho : S.okB with
  | false =>
    rw [ho] at d1
    exact .inr ⟨rfl, d1, .inl (by simp only [Bool.false_eq_true, if_false]; omega)⟩
  | true =>
    cases ho1 : T1.okB with
    | false =>
      rw [ho1] at d2
      exact .inr ⟨rfl, d2, .inl (by simp only [if_true, Bool.false_eq_true, if_false]; omega)⟩
    | true =>
      have q0 : T3.f (16 * s + 3 * k) = n := by
        rw [w3]; unfold up; rw [if_neg (by omega), w2]; unfold up; rw [if_neg (by omega), w1]; unfold up; rw [if_pos (by omega), z1 ho, Nat.add_zero, f0]
        exact ones_and n hn
      have q1 : T3.f (16 * s + 3 * k + 1) = 4294967295 - n := by
        rw [w3]; unfold up; rw [if_neg (by omega), w2]; unfold up; rw [if_pos (by omega), z2 ho1, w1]; unfold up; rw [if_neg (by omega), f1]
        exact ones_and _ (by unfold px; simp; omega)
      have q2 : T3.f (16 * s + 3 * k + 2) = y3 := by rw [w3]; unfold up; rw [if_pos rfl]
      have hg : good T3.f s k = decide (y3 = 0) := by
        unfold good; rw [q0, q1, q2]
        have : n = 4294967295 - (4294967295 - n) := by omega
        simp [← this]
      have hsv : sv T3.f (5 * s + k) = if y3 = 0 then n else 0 := by
        unfold sv; rw [hd1, hd2, hg, q0]; simp
      rw [hsv] at c3
      simp only [if_true]
      unfold errW
      cases ho2 : T2.okB with
      | true =>
        have hy : y3 = 0 := by rw [z3 ho2]; simp [px]
        rw [if_pos hy] at c3
        exact .inl ⟨rfl, by omega⟩
      | false =>
        rw [ho2] at d3
        refine .inr ⟨rfl, d3, ?_⟩
        by_cases hy : y3 = 0
        · rw [if_pos hy] at c3; exact .inr (by omega)
        · rw [if_neg hy] at c3; exact .inl (by omega)
theorem erase_f (S : FS) (s : Nat) (h : S.okB = true) : (S.erase s).f = eraseW S.f (16 * s) 4294967295 16 := by unfold FS.erase; rw [if_pos h]
theorem erase_any_f (S : FS) (s : Nat) : ∃ m, (S.erase s).f = eraseW S.f (16 * s) m 16 := by
  unfold FS.erase
  split
  · exact ⟨_, rfl⟩
  · split
    · exact ⟨_, rfl⟩
    · refine ⟨0, ?_⟩
      rw [S.step_f]; funext j; unfold eraseW; split <;> simp
/-- what Raise does, wherever the power ends -/
theorem raise_law {S : FS} (hS : S.Ok) {n : Nat} (hn : n < 4294967296) :
    (raiseE S n = 0 ∧ counter (raiseT S n).f = max (counter S.f) n ∧ (n ≤ counter S.f → raiseT S n = S)) ∨
    (raiseE S n = 19 ∧ (raiseT S n).de = true ∧ (counter (raiseT S n).f = counter S.f ∨ counter (raiseT S n).f = n) ∧ counter S.f ≤ counter (raiseT S n).f) := by
  unfold raiseE raiseT
  by_cases hle : n ≤ counter S.f
  · simp only [if_pos hle]
    exact .inl ⟨by first | rfl | trivial, by omega, fun _ => by first | rfl | trivial⟩
  · simp only [if_neg hle]
    have hs2 := newest_lt S.f
    by_cases hr : room S.f (newest S.f) = 5
    · simp only [if_pos hr]
      cases ho : S.okB with
      | true =>
        simp only [if_true]
        have hf : (S.erase (1 - newest S.f)).f = eraseW S.f (16 * (1 - newest S.f)) 4294967295 16 := erase_f _ _ ho
        have hce : counter (S.erase (1 - newest S.f)).f = counter S.f := by rw [hf]; exact counter_erase rfl _
        have hfr : fresh (S.erase (1 - newest S.f)).f (1 - newest S.f) 0 = true := by
          have h : ∀ d, d < 3 → (S.erase (1 - newest S.f)).f (16 * (1 - newest S.f) + 3 * 0 + d) = 4294967295 := fun d hd => by
            rw [hf]; unfold eraseW; rw [if_pos (by omega)]
            have := hS.f (16 * (1 - newest S.f) + 3 * 0 + d)
            apply Nat.eq_of_testBit_eq
            intro i
            rw [Nat.testBit_or, show (4294967295 : Nat) = 2 ^ 32 - 1 by rfl, Nat.testBit_two_pow_sub_one]
            by_cases hi : i < 32
            · simp [hi]
            · simp only [hi, decide_false, Bool.or_false]; exact Nat.testBit_lt_two_pow (Nat.lt_of_lt_of_le this (Nat.pow_le_pow_right (n := 2) (by decide) (show 32 ≤ i by omega)))
          unfold fresh
          have h0 : (S.erase (1 - newest S.f)).f (16 * (1 - newest S.f) + 3 * 0) = 4294967295 := h 0 (by decide)
          have h1 := h 1 (by decide)
          have h2 := h 2 (by decide)
          rw [h0, h1, h2]; rfl
        rcases put_law (s := 1 - newest S.f) (k := 0) (by omega) (by decide) hfr hn (by rw [hce]; omega) with ⟨h1, h2⟩ | ⟨h1, h2, h3⟩
        · exact .inl ⟨h1, by rw [h2]; omega, fun h => absurd h hle⟩
        · rw [hce] at h3
          exact .inr ⟨h1, h2, h3, by omega⟩
      | false =>
        simp only [Bool.false_eq_true, if_false]
        obtain ⟨m, hf⟩ := erase_any_f S (1 - newest S.f)
        have hce : counter (S.erase (1 - newest S.f)).f = counter S.f := by rw [hf]; exact counter_erase rfl _
        exact .inr ⟨trivial, by rw [erase_de, ho]; rfl, .inl hce, by omega⟩
    · simp only [if_neg hr]
      have hr5 : room S.f (newest S.f) < 5 := by have := rm_le S.f (newest S.f) 5; unfold room at hr ⊢; omega
      rcases put_law (s := newest S.f) (k := room S.f (newest S.f)) hs2 hr5 (rm_fresh S.f _ 5 hr5) hn (by omega) with ⟨h1, h2⟩ | ⟨h1, h2, h3⟩
      · exact .inl ⟨h1, by rw [h2]; omega, fun h => absurd h hle⟩
      · exact .inr ⟨h1, h2, h3, by omega⟩
end Go.Proofs.L
