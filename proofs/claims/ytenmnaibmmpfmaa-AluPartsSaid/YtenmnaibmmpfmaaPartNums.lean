/- Proved here: lemmas and contracts (PartNums) for the laws of this seat, for all values of the stated types; no further condition. -/
import Derived.Test.YtenmnaibmmpfmaaOrders
open Go Go.RowKit Go.Lib
namespace Go.Proofs.L
theorem u64b (a : Nat) (h : a < 18446744073709551616) : (BitVec.ofInt 64 (a : Int)).toNat = a := by
  rw [BitVec.ofInt_natCast, BitVec.toNat_ofNat]; exact Nat.mod_eq_of_lt h
theorem or_hi (h l : Nat) (hh : h < 4294967296) (hl : l < 4294967296) : h * 4294967296 ||| l = h * 4294967296 + l := by
  have := Nat.two_pow_add_eq_or_of_lt (i := 32) (b := l) (by simpa using hl) h
  rw [Nat.mul_comm]; exact this.symm
theorem or64u (h l : Nat) (hh : h < 4294967296) (hl : l < 4294967296) : bits .or .u64 ((h : Int) * 4294967296) (l : Int) = ((h * 4294967296 + l : Nat) : Int) := by
  rw [show (h : Int) * 4294967296 = ((h * 4294967296 : Nat) : Int) from by rw [Int.natCast_mul]; rfl]
  show IntKind.u64.wrap ((BitVec.ofInt 64 ((h * 4294967296 : Nat) : Int) ||| BitVec.ofInt 64 (l : Int)).toNat : Int) = _
  rw [BitVec.toNat_or, u64b _ (by omega), u64b _ (by omega), or_hi h l hh hl, u64w]
  omega
theorem i64w (z : Int) : IntKind.i64.wrap z = wrap64 z := by simp [IntKind.wrap, IntKind.bits, IntKind.signed, wrap64]; split <;> omega
theorem or64i (h l : Nat) (hh : h < 4294967296) (hl : l < 4294967296) : bits .or .i64 (wrap64 ((h : Int) * 4294967296)) (l : Int) = wrap64 (((h * 4294967296 + l : Nat) : Int)) := by
  show IntKind.i64.wrap ((BitVec.ofInt 64 (wrap64 ((h : Int) * 4294967296)) ||| BitVec.ofInt 64 (l : Int)).toNat : Int) = _
  have e : BitVec.ofInt 64 (wrap64 ((h : Int) * 4294967296)) = BitVec.ofInt 64 ((h * 4294967296 : Nat) : Int) := by
    apply BitVec.eq_of_toInt_eq
    rw [BitVec.toInt_ofInt, BitVec.toInt_ofInt]
    unfold wrap64
    rw [Int.bmod_def, Int.bmod_def]
    omega
  rw [e, BitVec.toNat_or, u64b _ (by omega), u64b _ (by omega), or_hi h l hh hl, i64w]
/-- the numbers of the law on parts -/
theorem prod_facts (a b : Nat) (ha : a < 4294967296) (hb : b < 4294967296) : ∃ lo hi mh : Nat, lo < 4294967296 ∧ hi < 4294967296 ∧ mh < 4294967296 ∧ vI 38 a b = (lo : Int) ∧ vI 41 a b = (hi : Int) ∧ vI 39 a b = (mh : Int) ∧
    hi * 4294967296 + lo = a * b ∧ wrap64 (((mh * 4294967296 + lo : Nat) : Int)) = sg a * sg b := by
  have hp : a * b < 18446744065119617026 := by
    have h1 : a * b ≤ 4294967295 * 4294967295 := Nat.mul_le_mul (by omega) (by omega)
    omega
  have xb := sg_bd a ha
  have yb := sg_bd b hb
  have m1 := mul_bd 2147483648 2147483648 (a := sg a) (b := sg b) (by omega) (by omega) (by omega) (by omega)
  have hmod : (sg a * sg b) % 4294967296 = ((a : Int) * b) % 4294967296 := by
    rw [Int.mul_emod, Int.mul_emod (a : Int) b]
    have e1 : sg a % 4294967296 = (a : Int) % 4294967296 := by unfold sg; split <;> omega
    have e2 : sg b % 4294967296 = (b : Int) % 4294967296 := by unfold sg; split <;> omega
    rw [e1, e2]
  obtain ⟨z, hz⟩ : ∃ z, z = sg a * sg b := ⟨_, rfl⟩
  have hab : ((a : Int) * b) = ((a * b : Nat) : Int) := by push_cast; rfl
  refine ⟨(a * b) % 4294967296, (a * b) / 4294967296, ((z / 4294967296) % 4294967296).toNat, by omega, by omega, by omega, ?_, ?_, ?_, by omega, ?_⟩
  · show ((a : Int) * b) % 4294967296 = _
    rw [hab]; omega
  · show ((a : Int) * b / 4294967296) % 4294967296 = _
    rw [hab]; omega
  · show (sg a * sg b / 4294967296) % 4294967296 = _
    rw [← hz]; omega
  · rw [← hz] at m1 hmod ⊢
    rw [hab] at hmod
    generalize a * b = t at *
    unfold wrap64
    omega
theorem quot_facts (a b : Nat) (ha : a < 4294967296) (hb : b < 4294967296) (hz : b ≠ 0) : ∃ q r p l u1 u2 : Nat, q < 4294967296 ∧ r < 4294967296 ∧ p < 4294967296 ∧ l < 4294967296 ∧
    vI 43 a b = (q : Int) ∧ vI 45 a b = (r : Int) ∧ vI 42 a b = (p : Int) ∧ vI 44 a b = (l : Int) ∧
    IntKind.u32.wrap ((q : Int) * b) = (u1 : Int) ∧ IntKind.u32.wrap ((u1 : Int) + r) = (a : Int) ∧ IntKind.u32.wrap ((p : Int) * b) = (u2 : Int) ∧ IntKind.u32.wrap ((u2 : Int) + l) = (a : Int) ∧ r < b ∧
    (l = 0 ∨ (l ≠ 0 ∧ ((0 ≤ sg a ∧ 0 ≤ wrap32 (l : Int)) ∨ (sg a < 0 ∧ wrap32 (l : Int) < 0)))) := by
  have hd := Nat.div_add_mod a b
  have hm := Nat.mod_lt a (Nat.pos_of_ne_zero hz)
  have xb := sg_bd a ha
  have yb := sg_bd b hb
  have hy0 : sg b ≠ 0 := fun e => hz ((sg_zero b hb).1 e)
  have hmd := tmod_eq (sg a) (sg b)
  have hab := Int.natAbs_tmod (sg a) (sg b)
  have hle : (sg a).natAbs % (sg b).natAbs ≤ (sg a).natAbs := Nat.mod_le _ _
  have hlt : (sg a).natAbs % (sg b).natAbs < (sg b).natAbs := Nat.mod_lt _ (by omega)
  have hsn : 0 ≤ sg a → 0 ≤ (sg a).tmod (sg b) := fun h => Int.tmod_nonneg _ h
  have hsp : sg a < 0 → (sg a).tmod (sg b) ≤ 0 := fun h => by
    have h1 := Int.neg_tmod (sg a) (sg b)
    have h2 := Int.tmod_nonneg (sg b) (a := - sg a) (by omega)
    omega
  have ea : sg a % 4294967296 = (a : Int) := by unfold sg; split <;> omega
  have eb : (b : Int) % 4294967296 = sg b % 4294967296 := by unfold sg; split <;> omega
  have v43 : vI 43 a b = (a : Int) / b := by show (if b = 0 then (4294967295 : Int) else (a : Int) / b) = _; rw [if_neg hz]
  have v45 : vI 45 a b = (a : Int) % b := by show (if b = 0 then (a : Int) else (a : Int) % b) = _; rw [if_neg hz]
  have v42 : vI 42 a b = ((sg a).tdiv (sg b)) % 4294967296 := by show (if b = 0 then (4294967295 : Int) else ((sg a).tdiv (sg b)) % 4294967296) = _; rw [if_neg hz]
  have v44 : vI 44 a b = ((sg a).tmod (sg b)) % 4294967296 := by show (if b = 0 then (a : Int) else ((sg a).tmod (sg b)) % 4294967296) = _; rw [if_neg hz]
  have hql : a / b ≤ a := Nat.div_le_self _ _
  have hrl : a % b ≤ a := Nat.mod_le _ _
  have hpm : ((((sg a).tdiv (sg b)) % 4294967296) * (b : Int)) % 4294967296 = ((sg a).tdiv (sg b) * sg b) % 4294967296 := by
    rw [Int.mul_emod, Int.emod_emod, eb, ← Int.mul_emod]
  obtain ⟨t, ht⟩ : ∃ t, t = (sg a).tmod (sg b) := ⟨_, rfl⟩
  obtain ⟨d, hdd⟩ : ∃ d, d = (sg a).tdiv (sg b) := ⟨_, rfl⟩
  rw [← ht] at hmd hab hsn hsp v44
  rw [← hdd] at hmd hpm v42
  obtain ⟨e, he⟩ : ∃ e, e = d * sg b := ⟨_, rfl⟩
  rw [← he] at hmd hpm
  have hqb : ((a / b : Nat) : Int) * (b : Int) = ((b * (a / b) : Nat) : Int) := by push_cast; rw [Int.mul_comm]
  refine ⟨a / b, a % b, (d % 4294967296).toNat, (t % 4294967296).toNat, b * (a / b), (e % 4294967296).toNat, by omega, by omega, by omega, by omega, by rw [v43, Int.natCast_ediv], by rw [v45, Int.natCast_emod], by rw [v42]; omega, by rw [v44]; omega, ?_, ?_, ?_, ?_, hm, ?_⟩
  · rw [hqb, u32w]
    generalize b * (a / b) = g at *
    omega
  · rw [u32w]
    generalize b * (a / b) = g at *
    generalize a % b = r at *
    omega
  · rw [u32w, show ((d % 4294967296).toNat : Int) = d % 4294967296 from by omega, hpm]; omega
  · rw [u32w]; omega
  · unfold wrap32
    omega
theorem ab_bd (a b : Nat) (ha : a < 4294967296) (hb : b < 4294967296) : a * b < 18446744065119617026 := by
  have h1 : a * b ≤ 4294967295 * 4294967295 := Nat.mul_le_mul (by omega) (by omega)
  omega
theorem u64i (a : Nat) (h : a < 18446744073709551616) : IntKind.u64.wrap (a : Int) = a := by rw [u64w]; omega
theorem u64s (a : Nat) (h : a < 4294967296) : IntKind.u64.wrap ((a : Int) * 4294967296) = (a : Int) * 4294967296 := by rw [u64w]; omega
theorem sxy (a b : Nat) (ha : a < 4294967296) (hb : b < 4294967296) : wrap64 (sg a * sg b) = sg a * sg b := by
  have x1 := sg_bd a ha
  have y1 := sg_bd b hb
  have m1 := mul_bd 2147483648 2147483648 (a := sg a) (b := sg b) (by omega) (by omega) (by omega) (by omega)
  exact IntWalk.wrap64_in _ (by omega)
/-- what the walk of the law on parts needs of the products -/
theorem parts_pre (a b : Nat) (ha : a < 4294967296) (hb : b < 4294967296) : ∃ (lo hi mh : Nat) (x y P z T : Int), lo < 4294967296 ∧ hi < 4294967296 ∧ mh < 4294967296 ∧ vI 38 a b = (lo : Int) ∧ vI 41 a b = (hi : Int) ∧ vI 39 a b = (mh : Int) ∧ x = sg a ∧ y = sg b ∧
    bits .or .u64 ((hi : Int) * 4294967296) (lo : Int) = P ∧ IntKind.u64.wrap ((a : Int) * b) = P ∧ bits .or .i64 T (lo : Int) = z ∧ wrap64 (x * y) = z ∧ IntKind.i64.wrap (x * y) = z ∧ IntKind.i64.wrap ((mh : Int) * 4294967296) = T ∧ wrap64 ((mh : Int) * 4294967296) = T := by
  obtain ⟨lo, hi, mh, l1, l2, l3, v1, v2, v3, f1, f2⟩ := prod_facts a b ha hb
  refine ⟨lo, hi, mh, sg a, sg b, ((a * b : Nat) : Int), sg a * sg b, wrap64 ((mh : Int) * 4294967296), l1, l2, l3, v1, v2, v3, rfl, rfl, ?_, ?_, ?_, sxy a b ha hb, by rw [i64w]; exact sxy a b ha hb, i64w _, rfl⟩
  · rw [or64u hi lo l2 l1, f1]
  · rw [← Int.natCast_mul]
    have := ab_bd a b ha hb
    exact u64i _ (by omega)
  · rw [or64i mh lo l3 l1, f2]
end Go.Proofs.L
