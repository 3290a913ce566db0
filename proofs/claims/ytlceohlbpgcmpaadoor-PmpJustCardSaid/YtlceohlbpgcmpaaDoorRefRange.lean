/- Proved here: lemmas and contracts (RefRange) for the laws of this seat, for all values of the stated types; no further condition. -/
import Derived.Test.YtlceohlbpgcmpaaDoorRuns
open Go Go.RowKit Go.Lib
namespace Go.Proofs.L
attribute [local irreducible] wpT
theorem size_end (a j r : Nat) (ha : a < 4294967296) (h : a + 1 = 2 ^ j * (r + 1)) (hr : r % 2 = 0) (hj : j ≤ 32) : sizeN a = 8 * 2 ^ j := by
  have hp : 0 < 2 ^ j := Nat.two_pow_pos j
  unfold sizeN Lib.ctz
  by_cases h0 : 4294967295 - a = 0
  · rw [if_pos h0]
    have e : j = 32 := by
      apply Nat.le_antisymm hj
      apply Nat.le_of_not_lt
      intro hlt
      have e1 : 2 ^ j * 2 ^ (32 - j) = 4294967296 := by rw [← Nat.pow_add, show j + (32 - j) = 32 by omega]
      have e2 : 2 ^ j * 2 ^ (32 - j) = 2 ^ j * (r + 1) := by rw [e1, ← h]; omega
      have e3 := Nat.eq_of_mul_eq_mul_left hp e2
      have e4 : 2 ^ (32 - j) = 2 * 2 ^ (31 - j) := by rw [show 32 - j = (31 - j) + 1 by omega, Nat.pow_succ]; omega
      omega
    subst e
    decide
  · rw [if_neg h0]
    have hj2 : j < 32 := by
      rcases Nat.lt_or_ge j 32 with h2 | h2
      · exact h2
      · have : j = 32 := by omega
        subst this
        have : 2 ^ 32 * 1 ≤ 2 ^ 32 * (r + 1) := Nat.mul_le_mul_left _ (by omega)
        omega
    have e1 : 2 ^ j * 2 ^ (32 - j) = 4294967296 := by rw [← Nat.pow_add, show j + (32 - j) = 32 by omega]
    have e4 : 2 ^ (32 - j) = 2 * 2 ^ (31 - j) := by rw [show 32 - j = (31 - j) + 1 by omega, Nat.pow_succ]; omega
    obtain ⟨m, rfl⟩ : ∃ m, r = 2 * m := ⟨r / 2, by omega⟩
    have hlt : 2 * m + 1 < 2 ^ (32 - j) := by
      apply Nat.lt_of_not_le
      intro hle
      have := Nat.mul_le_mul_left (2 ^ j) hle
      omega
    have e : 4294967295 - a = 2 ^ j * (2 * (2 ^ (31 - j) - m - 1) + 1) := by
      have : 2 * (2 ^ (31 - j) - m - 1) + 1 = 2 ^ (32 - j) - (2 * m + 1) := by omega
      rw [this, Nat.mul_sub, e1, ← h]
      omega
    rw [e, ctz_from 32 j _ hj2, Nat.pow_add]
theorem div_i (a b : Nat) : (a : Int).tdiv (b : Int) = ((a / b : Nat) : Int) := by
  rw [Int.tdiv_eq_ediv_of_nonneg (by omega)]; rfl
set_option maxRecDepth 100000 in
set_option maxHeartbeats 1600000 in
theorem rrange_any {w : World} {b o n c : Nat} {L : List Ent} (hE : EntsAt w b o L) (hn : L.length = n) (i : Nat) (hi : i < n) (hn6 : n < 1000000) :
    Calls Tryd.prog 23 #[.slice (some ⟨b, o, none⟩) n c, .int .i64 (i : Int)] w fun e w' => e = .returned (.tuple #[.int .i64 ((rangeN L i).1 : Int), .int .i64 ((rangeN L i).2 : Int)]) ∧ w' = w := by
  obtain ⟨⟨way, rt, a⟩, he⟩ : ∃ e, L[i]? = some e := ⟨_, List.getElem?_eq_getElem (by omega)⟩
  obtain ⟨h0, h1, h2, hlt⟩ := hE i _ he
  simp only [] at h0 h1 h2 hlt
  have hr : rangeN L i = (if way = 1 then ((if i = 0 then 0 else (L.getD (i - 1) default).addr * 4), max (if i = 0 then 0 else (L.getD (i - 1) default).addr * 4) (a * 4))
    else if way = 2 then (a * 4, a * 4 + 4)
    else if way = 3 then (a * 4 / sizeN a * sizeN a, a * 4 / sizeN a * sizeN a + sizeN a)
    else (0, 0)) := by unfold rangeN; rw [he]
  rw [hr]
  have i0 : decide ((i : Int) < 0) = false := by simp
  have i1 : decide ((n : Int) ≤ (i : Int)) = false := by simp; omega
  have i2 : (i : Int) < (n : Int) := by omega
  have wa : wrap64 (a : Int) = (a : Int) := IntWalk.wrap64_in _ ⟨by omega, by omega⟩
  have m0 : wrap64 (4 * (a : Int)) = ((a * 4 : Nat) : Int) := by rw [IntWalk.wrap64_in _ ⟨by omega, by omega⟩]; omega
  obtain ⟨a4, ha4⟩ : ∃ a4, a4 = a * 4 := ⟨_, rfl⟩
  rw [← ha4] at m0
  simp only [← ha4]
  have HA4 := Lib.hid ha4
  have HLT := Lib.hid hlt
  by_cases w1 : way = 1
  · subst w1
    by_cases hi0 : i = 0
    · subst hi0
      simp only [if_true, Nat.zero_max]
      rw [Nat.zero_mul, Nat.add_zero] at h0 h1 h2
      clear hr he hE hlt ha4
      by_cases hz : a4 = 0
      · subst hz
        go_enter Tryd.func23, Tryd.ntmps23
        go_wp2
        go_ret2
        exact ⟨rfl, rfl⟩
      · have d : decide ((a4 : Int) ≤ (0 : Int)) = false := by rw [decide_eq_false_iff_not]; omega
        go_enter Tryd.func23, Tryd.ntmps23
        go_wp2
        go_ret2
        refine ⟨?_, rfl⟩
        show Ending.returned (.tuple #[.int .i64 0, .int .i64 (wrap64 (4 * (a : Int)))]) = _
        rw [m0]
        rfl
    · obtain ⟨⟨pw, pr, pa⟩, hp⟩ : ∃ e, L[i - 1]? = some e := ⟨_, List.getElem?_eq_getElem (by omega)⟩
      obtain ⟨_, _, p2, plt⟩ := hE (i - 1) _ hp
      simp only [] at p2 plt
      have hd : L.getD (i - 1) default = ⟨pw, pr, pa⟩ := by rw [List.getD_eq_getElem?_getD, hp]; rfl
      have wp : wrap64 (pa : Int) = (pa : Int) := IntWalk.wrap64_in _ ⟨by omega, by omega⟩
      have mp : wrap64 (4 * (pa : Int)) = ((pa * 4 : Nat) : Int) := by rw [IntWalk.wrap64_in _ ⟨by omega, by omega⟩]; omega
      simp only [if_true, if_neg hi0, hd]
      have q1 : decide ((0 : Int) < (i : Int)) = true := by rw [decide_eq_true_eq]; omega
      have q1n : 0 < i := by omega
      obtain ⟨j, hj⟩ : ∃ j, j = i - 1 := ⟨_, rfl⟩
      have q3 : wrap64 ((i : Int) - 1) = (j : Int) := by rw [IntWalk.wrap64_in _ ⟨by omega, by omega⟩]; omega
      have q3' : IntKind.i64.wrap ((i : Int) - 1) = (j : Int) := by rw [IntKind.wrap_i64]; omega
      have q4 : (j : Int) < (n : Int) := by omega
      have q4n : j < n := by omega
      rw [← hj] at p2
      obtain ⟨p4, hp4⟩ : ∃ p4, p4 = pa * 4 := ⟨_, rfl⟩
      rw [← hp4] at mp
      simp only [← hp4]
      clear hr he hE hlt ha4 hp4 hd hp plt hi0 hj
      by_cases hle : a4 ≤ p4
      · have d : decide ((a4 : Int) ≤ (p4 : Int)) = true := by rw [decide_eq_true_eq]; omega
        rw [show max p4 a4 = p4 by omega]
        go_enter Tryd.func23, Tryd.ntmps23
        go_wp2
        go_ret2
        exact ⟨rfl, rfl⟩
      · have d : decide ((a4 : Int) ≤ (p4 : Int)) = false := by rw [decide_eq_false_iff_not]; omega
        rw [show max p4 a4 = a4 by omega]
        go_enter Tryd.func23, Tryd.ntmps23
        go_wp2
        go_ret2
        exact ⟨rfl, rfl⟩
  by_cases w2 : way = 2
  · subst w2
    obtain ⟨t, ht⟩ : ∃ t, t = a4 + 4 := ⟨_, rfl⟩
    have m1 : wrap64 ((a4 : Int) + 4) = (t : Int) := by rw [IntWalk.wrap64_in _ ⟨by omega, by omega⟩]; omega
    rw [if_neg w1, if_pos rfl, ← ht]
    clear hr he hE hlt ha4 ht w1
    go_enter Tryd.func23, Tryd.ntmps23
    go_wp2
    go_ret2
    refine ⟨?_, rfl⟩
    show Ending.returned (.tuple #[.int .i64 (wrap64 (4 * (a : Int))), .int .i64 (wrap64 ((a4 : Int) + 4))]) = _
    rw [m0, m1]
  by_cases w3 : way = 3
  · subst w3
    rw [if_neg w1, if_neg w2, if_pos rfl]
    obtain ⟨F, hF⟩ : ∃ F, F = a4 / sizeN a * sizeN a := ⟨_, rfl⟩
    obtain ⟨S, hS⟩ : ∃ S, S = F + sizeN a := ⟨_, rfl⟩
    simp only [← hF, ← hS]
    have HFF := Lib.hid hF
    have HSS := Lib.hid hS
    clear hr he hE hlt ha4 w1 w2 hF hS
    go_enter Tryd.func23, Tryd.ntmps23
    go_wp2_with fail
    go_loopw [8, 9] (fun s r wr => ∃ j m : Nat, s = .int .i64 (8 * 2 ^ j : Nat) ∧ r = .int .i64 (m : Int) ∧ a + 1 = 2 ^ j * (m + 1) ∧ j ≤ 32 ∧ wr = w) (fun _ r _ => (intOf r).toNat)
    case atStart => exact ⟨0, a, rfl, by first | with_reducible rfl | rw [wa], by omega, by omega, rfl⟩
    case round =>
      obtain ⟨j, m, rfl, rfl, hjm, hj, hwr⟩ := hrel
      obtain rfl := hwr.symm
      obtain ⟨P, hP⟩ : ∃ P, P = 8 * 2 ^ j := ⟨_, rfl⟩
      rw [← hP]
      have hP32 : P ≤ 34359738368 := by
        have := Nat.pow_le_pow_right (n := 2) (by decide) hj
        omega
      have hP0 : 0 < P := by have := Nat.two_pow_pos j; omega
      have hm : m < 4294967296 := by
        have h1 := Nat.le_mul_of_pos_left (m + 1) (Nat.two_pow_pos j)
        have := HLT.out; omega
      obtain ⟨y, hy⟩ : ∃ y, y = m % 2 := ⟨_, rfl⟩
      have ey : (m : Int).tmod 2 = (y : Int) := by rw [Int.tmod_eq_emod_of_nonneg (by omega), hy]; rfl
      have ey2 : (m : Int) % 2 = (y : Int) := by omega
      by_cases h1 : y = 1
      · subst h1
        have hj2 : j < 32 := by
          apply Nat.lt_of_not_le
          intro hle
          have : j = 32 := by omega
          subst this
          have : 2 ^ 32 * 2 ≤ 2 ^ 32 * (m + 1) := Nat.mul_le_mul_left _ (by omega)
          have := HLT.out; omega
        obtain ⟨m2, hm2⟩ : ∃ m2, m2 = m / 2 := ⟨_, rfl⟩
        have n4 : m2 < m := by omega
        have n3 : j + 1 ≤ 32 := by omega
        have n2 : a + 1 = 2 ^ (j + 1) * (m2 + 1) := by
          have e : m + 1 = 2 * (m2 + 1) := by omega
          rw [Nat.pow_succ, Nat.mul_assoc, hjm, e]
        have n1 : P * 2 = 8 * 2 ^ (j + 1) := by rw [Nat.pow_succ, hP]; rw [Nat.mul_assoc]
        have w7 : wrap64 ((P : Int) * 2) = ((P * 2 : Nat) : Int) := by rw [IntWalk.wrap64_in _ ⟨by omega, by omega⟩]; omega
        have q7 : (m : Int).tdiv 2 = (m2 : Int) := by rw [Int.tdiv_eq_ediv_of_nonneg (by omega), hm2]; rfl
        have wm : wrap64 (m2 : Int) = (m2 : Int) := IntWalk.wrap64_in _ ⟨by omega, by omega⟩
        have q7' : (m : Int) / 2 = (m2 : Int) := by omega
        have HNX := Lib.hid (And.intro n1 (And.intro n2 (And.intro n3 n4)))
        clear n1 n2 n3 n4
        clear hy hm2 hjm hj hP hP32 hm hj2
        go_wp2_with fail
        have W7 := Lib.hid w7
        have WM := Lib.hid wm
        clear w7 wm q7 q7' ey ey2 wa m0
        refine ⟨⟨j + 1, m2, ?_, ?_, HNX.out.2.1, HNX.out.2.2.1, ?_⟩, ?_⟩
        · rw [← HNX.out.1]; first | rw [W7.out] | (congr 1; omega)
        · first | with_reducible rfl | rw [WM.out]
        · first | rfl | trivial
        · rw [WM.out]; show ((m2 : Int)).toNat < ((m : Int)).toNat; rw [Int.toNat_natCast, Int.toNat_natCast]; exact HNX.out.2.2.2
      · have hy0 : y = 0 := by omega
        have HSZ : Hid (sizeN a = P) := Lib.hid (by rw [hP]; exact size_end a j m HLT.out hjm (by omega) hj)
        subst hy0
        have WA := Lib.hid wa
        have M0 := Lib.hid m0
        clear wa m0
        obtain ⟨d, hd⟩ : ∃ d, d = a4 / P := ⟨_, rfl⟩
        have hF : F = d * P := by rw [HFF.out, HSZ.out, hd]
        have hS : S = F + P := by rw [HSS.out, HSZ.out]
        have hFl : F ≤ a4 := by rw [hF, hd]; exact Nat.div_mul_le_self _ _
        have ha17 : a4 < 17179869184 := by have := HA4.out; have := HLT.out; omega
        have hdl : d ≤ a4 := by rw [hd]; exact Nat.div_le_self _ _
        have q8 : (a4 : Int).tdiv (P : Int) = (d : Int) := by rw [div_i, hd]
        have q8' : (a4 : Int) / (P : Int) = (d : Int) := by rw [hd]; simp
        have q11 : ((P : Int) == 0) = false := by rw [Bool.eq_false_iff]; simp; omega
        have q12 : ((P : Int) = 0) = False := eq_false (by omega)
        have q13 : ((P : Int) == -1) = false := by rw [Bool.eq_false_iff]; simp
        have hS12 : S < 1000000000000 := by omega
        have wd : wrap64 (d : Int) = (d : Int) := IntWalk.wrap64_in _ ⟨by omega, by omega⟩
        have WD := Lib.hid wd
        clear wd
        have q10 : wrap64 ((F : Int) + (P : Int)) = (S : Int) := wrapS F P S hS hS12
        have Q10 := Lib.hid q10
        clear q10
        have q9 : wrap64 ((d : Int) * (P : Int)) = (F : Int) := by
          have : (d : Int) * (P : Int) = (F : Int) := by rw [hF]; simp
          rw [this, IntWalk.wrap64_in _ ⟨by omega, by omega⟩]
        have q10 := Q10.out
        have wd := WD.out
        have wa := WA.out
        have m0 := M0.out
        clear hS12 hy hjm hj hd hdl hF hS hFl ha17 hP32 hm hP HSZ HFF HSS
        go_wp2
        go_ret2
        refine ⟨?_, rfl⟩
        first | (show Ending.returned (.tuple #[.int .i64 (wrap64 (wrap64 (d : Int) * (P : Int))), .int .i64 (wrap64 (wrap64 (wrap64 (d : Int) * (P : Int)) + (P : Int)))]) = _; rw [wd, q9, q10]) | (show Ending.returned (.tuple #[.int .i64 (F : Int), .int .i64 (S : Int)]) = _; with_reducible rfl)
  · rw [if_neg w1, if_neg w2, if_neg w3]
    have n1 : (way == 1) = false := by rw [Bool.eq_false_iff]; simp; exact w1
    have n2 : (way == 2) = false := by rw [Bool.eq_false_iff]; simp; exact w2
    have n3 : (way == 3) = false := by rw [Bool.eq_false_iff]; simp; exact w3
    clear hr he hE hlt ha4 w1 w2 w3
    go_enter Tryd.func23, Tryd.ntmps23
    go_wp2
    go_ret2
    exact ⟨rfl, rfl⟩
end Go.Proofs.L
