/- Proved here: lemmas and contracts (Shifts) for the laws of this seat, for all values of the stated types; no further condition. -/
import Derived.Test.YtenmnaibmmpfmaaOrders
open Go Go.RowKit Go.Lib
namespace Go.Proofs.L
theorem not32 (m : Nat) (hm : m < 4294967296) : bits .xor .u32 IntKind.u32.max (m : Int) = ((4294967295 - m : Nat) : Int) := by
  show IntKind.u32.wrap ((BitVec.ofInt 32 IntKind.u32.max ^^^ BitVec.ofInt 32 (m : Int)).toNat : Int) = _
  have h : (BitVec.ofInt 32 IntKind.u32.max) = BitVec.allOnes 32 := by decide
  rw [h, BitVec.allOnes_xor, BitVec.toNat_not, u32b m hm, u32w]
  omega
/-- the numbers of the law on shifts -/
theorem shift_facts (a n : Nat) (ha : a < 4294967296) : ∃ (k p q s z m y ng hi : Nat), k = n % 32 ∧ k < 32 ∧ s < 4294967296 ∧ z < 4294967296 ∧ m < 4294967296 ∧ y < 4294967296 ∧ ng < 4294967296 ∧ hi < 4294967296 ∧
    1 ≤ p ∧ p ≤ 2147483648 ∧
    vI 30 a n = (s : Int) ∧ vI 25 a k = (s : Int) ∧ vI 34 s n = (z : Int) ∧ vI 34 a n = (y : Int) ∧ vI 26 a k = (y : Int) ∧ vI 35 a n = (ng : Int) ∧ vI 27 a k = (ng : Int) ∧
    (2 : Int) ^ k = (p : Int) ∧ (4294967295 : Int) / (p : Int) = (m : Int) ∧ (a : Int) / (p : Int) = (y : Int) ∧ bits .and .u32 (a : Int) (m : Int) = (z : Int) ∧
    (a < 2147483648 → ng = y) ∧ (2147483648 ≤ a → hi = 4294967295 - m ∧ bits .or .u32 (y : Int) (hi : Int) = (ng : Int)) := by
  obtain ⟨k, p, q, hk, hp, p1, p2, q1, q2, pq, e1, e2⟩ := pow_facts n
  have hk32 : k < 32 := by omega
  have hkk : k % 32 = n % 32 := by omega
  have hq : q = 2 ^ (32 - k) := by
    have h4 : 2 ^ k * 2 ^ (32 - k) = 4294967296 := by rw [← Nat.pow_add, show k + (32 - k) = 32 by omega]
    rw [← hp] at h4
    exact Nat.eq_of_mul_eq_mul_left p1 (by rw [h4, pq])
  have hm : (4294967295 : Nat) / p = q - 1 := by
    have : 4294967295 = p * (q - 1) + (p - 1) := by
      rw [Nat.mul_sub, pq, Nat.mul_one]; omega
    rw [this, Nat.add_comm, Nat.add_mul_div_left _ _ p1, Nat.div_eq_of_lt (by omega)]; omega
  have hy : a / p < q := by
    rw [Nat.div_lt_iff_lt_mul p1, Nat.mul_comm, pq]; exact ha
  have hs : a % q * p < 4294967296 := by
    have h1 : a % q < q := Nat.mod_lt _ (by omega)
    have h2 : (a % q) * p < q * p := Nat.mul_lt_mul_of_pos_right h1 p1
    rw [Nat.mul_comm q p, pq] at h2; exact h2
  have hzq : a % q < q := Nat.mod_lt _ (by omega)
  have hng : (sg a / (p : Int)) % 4294967296 = (((if a < 2147483648 then a / p else a / p + (4294967296 - q)) : Nat) : Int) := by
    have hap : a / p ≤ a := Nat.div_le_self _ _
    unfold sg
    by_cases h : a < 2147483648
    · rw [if_pos h, if_pos h, ← Int.natCast_ediv]
      clear e1 e2 hq hm hp hkk hk
      generalize a / p = d at *
      omega
    · have h1 : ((a : Int) - 4294967296) / (p : Int) = (a : Int) / p - q := by
        rw [show (4294967296 : Int) = (q : Int) * p from by rw [← Int.natCast_mul, Nat.mul_comm, pq]; rfl]
        rw [Int.sub_mul_ediv_right _ _ (by omega)]
      rw [if_neg h, if_neg h, h1, ← Int.natCast_ediv]
      clear e1 e2 hq hm hp hkk hk h1
      generalize a / p = d at *
      omega
  have e1' : (2 : Int) ^ k = (p : Int) := by rw [hk]; exact e1
  refine ⟨k, p, q, a % q * p, a % q, q - 1, a / p, (if a < 2147483648 then a / p else a / p + (4294967296 - q)), 4294967296 - q, hk, hk32, hs, by omega, by omega, by omega, ?_, by omega, p1, p2, ?_, ?_, ?_, ?_, ?_, ?_, ?_, e1', ?_, ?_, ?_, ?_, ?_⟩
  · split <;> omega
  · show ((a : Int) * 2 ^ (n % 32)) % 4294967296 = _
    rw [e1, ← sll_law a p q pq]; rw [Int.natCast_mul, Int.natCast_emod]
  · show ((a : Int) * 2 ^ (k % 32)) % 4294967296 = _
    rw [hkk, e1, ← sll_law a p q pq]; rw [Int.natCast_mul, Int.natCast_emod]
  · show ((a % q * p : Nat) : Int) / 2 ^ (n % 32) = _
    rw [e1, ← Int.natCast_ediv, Nat.mul_div_cancel _ p1]
  · show (a : Int) / 2 ^ (n % 32) = _
    rw [e1, ← Int.natCast_ediv]
  · show (a : Int) / 2 ^ (k % 32) = _
    rw [hkk, e1, ← Int.natCast_ediv]
  · show (sg a / 2 ^ (n % 32)) % 4294967296 = _
    rw [e1, hng]
  · show (sg a / 2 ^ (k % 32)) % 4294967296 = _
    rw [hkk, e1, hng]
  · rw [show (4294967295 : Int) = ((4294967295 : Nat) : Int) from rfl, ← Int.natCast_ediv, hm]
  · rw [← Int.natCast_ediv]
  · rw [and32 _ _ ha (by omega), hq, Nat.and_two_pow_sub_one_eq_mod]
  · intro h; rw [if_pos h]
  · intro h
    refine ⟨by omega, ?_⟩
    rw [or32 _ _ (by omega) (by omega), if_neg (by omega)]
    congr 1
    have h5 : 4294967296 - q = 2 ^ (32 - k) * (2 ^ k - 1) := by
      rw [← hp, ← hq, Nat.mul_sub, Nat.mul_comm q p, pq, Nat.mul_one]
    rw [h5]
    rw [Nat.or_comm, ← Nat.two_pow_add_eq_or_of_lt (by rw [← hq]; exact hy), Nat.add_comm]
set_option maxHeartbeats 1600000 in
theorem shifts_walk (a n : Nat) (ha : a < 4294967296) (hn : n < 4294967296) (w : World) : Calls Try.prog 6 #[.int .u32 a, .int .u32 n] w fun e w' => e = .returned (.bool true) ∧ Below w.heap.size w w' := by
  obtain ⟨k, p, q, s, z, m, y, ng, hi, hk, hk32, hs, hz, hm, hy, hng, hhi, p1, p2, v1, v2, v3, v4, v5, v6, v7, e1, e2, e3, e4, e5, e6⟩ := shift_facts a n ha
  have h31 := and31 n hn
  rw [← hk] at h31
  have H1 := Lib.hid (fun w => r18 30 a n ha hn (by decide) (by decide) w)
  have H2 := Lib.hid (fun w => r18 34 s n hs hn (by decide) (by decide) w)
  have H3 := Lib.hid (fun w => r18 35 a n ha hn (by decide) (by decide) w)
  have H4 := Lib.hid (fun w => r18 25 a k ha (by omega) (by decide) (by decide) w)
  have H5 := Lib.hid (fun w => r18 34 a n ha hn (by decide) (by decide) w)
  have H6 := Lib.hid (fun w => r18 26 a k ha (by omega) (by decide) (by decide) w)
  have H7 := Lib.hid (fun w => r18 27 a k ha (by omega) (by decide) (by decide) w)
  rw [v1] at H1
  rw [v3] at H2
  rw [v6] at H3
  rw [v2] at H4
  rw [v4] at H5
  rw [v5] at H6
  rw [v7] at H7
  clear v1 v2 v3 v4 v5 v6 v7 hk
  have pz : ¬ (p : Int) = 0 := by omega
  by_cases h : a < 2147483648
  · have h' := e5 h
    clear e5 e6
    subst h'
    have t1 : ((a : Int) / 2147483648 == 1) = false := by simp; omega
    have t2 : bits .or .u32 (ng : Int) 0 = (ng : Int) := by
      have := or32 ng 0 hng (by decide)
      simpa using this
    go_enter Try.func6, Try.ntmps6
    go_wp2_with fail
    refine (fit_ok w).mono ?_
    rintro e w1 ⟨rfl, rfl⟩
    go_wp2_with fail
    refine (H1.out _).mono ?_
    rintro e w2 ⟨rfl, rfl⟩
    go_wp2_with fail
    refine (H2.out _).mono ?_
    rintro e w2 ⟨rfl, rfl⟩
    go_wp2_with fail
    refine (H3.out _).mono ?_
    rintro e w2 ⟨rfl, rfl⟩
    go_wp2_with fail
    refine (H1.out _).mono ?_
    rintro e w2 ⟨rfl, rfl⟩
    go_wp2_with fail
    refine (H4.out _).mono ?_
    rintro e w2 ⟨rfl, rfl⟩
    go_wp2_with fail
    refine (H5.out _).mono ?_
    rintro e w2 ⟨rfl, rfl⟩
    go_wp2_with fail
    refine (H6.out _).mono ?_
    rintro e w2 ⟨rfl, rfl⟩
    go_wp2_with fail
    refine (H7.out _).mono ?_
    rintro e w2 ⟨rfl, rfl⟩
    go_wp2
    go_ret
    exact ⟨rfl, Below.refl _ _⟩
  · obtain ⟨h5, h6⟩ := e6 (by omega)
    clear e5 e6
    have t1 : ((a : Int) / 2147483648 == 1) = true := by simp; omega
    have t3 : bits .xor .u32 IntKind.u32.max (m : Int) = (hi : Int) := by rw [not32 m hm, h5]
    clear h5
    go_enter Try.func6, Try.ntmps6
    go_wp2_with fail
    refine (fit_ok w).mono ?_
    rintro e w1 ⟨rfl, rfl⟩
    go_wp2_with fail
    refine (H1.out _).mono ?_
    rintro e w2 ⟨rfl, rfl⟩
    go_wp2_with fail
    refine (H2.out _).mono ?_
    rintro e w2 ⟨rfl, rfl⟩
    go_wp2_with fail
    refine (H3.out _).mono ?_
    rintro e w2 ⟨rfl, rfl⟩
    go_wp2_with fail
    refine (H1.out _).mono ?_
    rintro e w2 ⟨rfl, rfl⟩
    go_wp2_with fail
    refine (H4.out _).mono ?_
    rintro e w2 ⟨rfl, rfl⟩
    go_wp2_with fail
    refine (H5.out _).mono ?_
    rintro e w2 ⟨rfl, rfl⟩
    go_wp2_with fail
    refine (H6.out _).mono ?_
    rintro e w2 ⟨rfl, rfl⟩
    go_wp2_with fail
    refine (H7.out _).mono ?_
    rintro e w2 ⟨rfl, rfl⟩
    go_wp2
    go_ret
    exact ⟨rfl, Below.refl _ _⟩
end Go.Proofs.L
