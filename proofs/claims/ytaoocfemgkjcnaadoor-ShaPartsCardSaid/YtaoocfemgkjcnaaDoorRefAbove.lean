/- Proved here: lemmas and contracts (RefAbove) for the laws of this seat, for all values of the stated types; no further condition. -/
import Derived.Test.YtaoocfemgkjcnaaDoorTwoWalk
open Go Go.RowKit Go.Lib
namespace Go.Proofs.L
attribute [local irreducible] wpT
/-! the reference: right, above -/
theorem chg_fresh {E F : List Nat} {W w w' : World} (h : Chg E W w) (h2 : Chg F w w') (hF : ∀ g ∈ F, g ∈ E ∨ W.heap.size ≤ g) : Chg E W w' :=
  ⟨h2.os.trans h.os, h2.tape.trans h.tape, h2.output.trans h.output, Nat.le_trans h.size h2.size, fun k hk hE => (h2.block k (Nat.lt_of_lt_of_le hk h.size) (fun hm => by rcases hF k hm with h3 | h3; exact hE h3; omega)).trans (h.block k hk hE)⟩
theorem wadd {a b z : Nat} (h : z = (a + b) % 18446744073709551616) : IntKind.u64.wrap ((a : Int) + (b : Int)) = (z : Int) := by rw [u64w, h]; omega
theorem wmul {a b z : Nat} (h : z = a * b % 18446744073709551616) : IntKind.u64.wrap ((a : Int) * (b : Int)) = (z : Int) := by rw [u64w, h, Int.natCast_emod, Int.natCast_mul]; rfl
theorem wmod {a z : Nat} (h : z = a % 4294967296) : (a : Int) % 4294967296 = (z : Int) := by omega
theorem wtmod {a z : Nat} (h : z = a % 4294967296) : (a : Int).tmod 4294967296 = (z : Int) := by rw [Int.tmod_eq_emod_of_nonneg (by omega)]; exact wmod h
theorem wdiv {a z : Nat} (h : z = a / 4294967296) : (a : Int) / 4294967296 = (z : Int) := by omega
theorem wtdiv {a z : Nat} (h : z = a / 4294967296) : (a : Int).tdiv 4294967296 = (z : Int) := by rw [Int.tdiv_eq_ediv_of_nonneg (by omega)]; exact wdiv h
theorem widl {z : Nat} (h : z < 18446744073709551616) : IntKind.u64.wrap (z : Int) = (z : Int) := by rw [u64w]; omega
theorem addI {a b c : Nat} (h : c = a + b) : (a : Int) + (b : Int) = (c : Int) := by omega
theorem ltI8 {a : Nat} (h : a < 8) : (a : Int) < 8 := by omega
theorem ltI6 {a : Nat} (h : a < 6) : (a : Int) < 6 := by omega
theorem ltI5 {a : Nat} (h : a < 5) : (a : Int) < 5 := by omega
theorem ltI64 {a : Nat} (h : a < 64) : (a : Int) < 64 := by omega
theorem m64 {a z : Nat} (h : z = a % 18446744073709551616) : z < 18446744073709551616 := by omega
theorem d32 {a z : Nat} (h : z = a / 4294967296) (ha : a < 18446744073709551616) : z < 18446744073709551616 := by omega
theorem idw64 {z : Nat} (h : z < 1000000000) : wrap64 (z : Int) = (z : Int) := IntWalk.wrap64_in _ ⟨by omega, by omega⟩
theorem idi64 {z : Nat} (h : z < 1000000000) : IntKind.i64.wrap (z : Int) = (z : Int) := IntWalk.i64_in _ (by omega)
def rightN (x n : Nat) : Nat := (x / 2 ^ n + x * 2 ^ (32 - n) % 18446744073709551616) % 18446744073709551616 % 4294967296
theorem right_any (x n : Nat) (hn : n ≤ 32) (w : World) :
    Calls Tryd.prog 13 #[.int .u64 (x : Int), .int .u64 (n : Int)] w fun e w' => e = .returned (.int .u64 ((rightN x n : Nat) : Int)) ∧ w' = w := by
  have hs : IntKind.u64.wrap (32 - (n : Int)) = ((32 - n : Nat) : Int) := by rw [u64w]; omega
  go_enter Tryd.func13, Tryd.ntmps13
  go_wp2
  go_ret
  refine ⟨?_, rfl⟩
  have e : (IntKind.u64.wrap ((x : Int) / 2 ^ n + IntKind.u64.wrap ((x : Int) * 2 ^ (32 - n)))).tmod 4294967296 = ((rightN x n : Nat) : Int) := by
    rw [u64w, u64w, Int.tmod_eq_emod_of_nonneg (Int.emod_nonneg _ (by decide))]
    unfold rightN
    rw [Int.natCast_emod, Int.natCast_emod, Int.natCast_add, Int.natCast_emod, Int.natCast_ediv, Int.natCast_mul, Int.natCast_pow, Int.natCast_pow]
    rfl
  exact congrArg (fun z => Ending.returned (.int .u64 z)) e
def stepL (rj : Nat) (a : List Nat) (j : Nat) (t : List Nat) : Nat → List Nat × Nat
  | 0 => (t, 0)
  | l + 1 =>
    let s := stepL rj a j t l
    let c := (s.2 + (s.1.getD (j + l) 0 + rj * a.getD l 0 % 18446744073709551616) % 18446744073709551616) % 18446744073709551616
    (s.1.set (j + l) (c % 4294967296), c / 4294967296)
def stepJ (r a : List Nat) : Nat → List Nat
  | 0 => List.replicate 8 0
  | j + 1 =>
    let s := stepL (r.getD j 0) a j (stepJ r a j) 2
    s.1.set (j + 2) ((s.1.getD (j + 2) 0 + s.2) % 18446744073709551616)
def copyN (r t : List Nat) : Nat → List Nat
  | 0 => r
  | j + 1 => (copyN r t j).set j (t.getD j 0)
def powR (a : List Nat) : Nat → List Nat
  | 0 => [1, 0, 0, 0, 0, 0]
  | i + 1 => copyN (powR a i) (stepJ (powR a i) a 5) 6
def aboveN (y p k : Nat) : Bool :=
  let r := powR [y % 4294967296, y / 4294967296, 0, 0, 0, 0] k
  if (List.range 6).any (fun j => decide (k < j) && decide (0 < r.getD j 0)) then true
  else if r.getD k 0 ≠ p then decide (p < r.getD k 0)
  else (List.range k).any fun j => decide (0 < r.getD j 0)
theorem stepL_len (rj : Nat) (a : List Nat) (j : Nat) (t : List Nat) (l : Nat) : (stepL rj a j t l).1.length = t.length := by
  induction l with
  | zero => rfl
  | succ l ih => show (List.set _ _ _).length = _; rw [List.length_set, ih]
theorem stepJ_len (r a : List Nat) (j : Nat) : (stepJ r a j).length = 8 := by
  induction j with
  | zero => rfl
  | succ j ih => show (List.set _ _ _).length = _; rw [List.length_set, stepL_len, ih]
theorem copyN_len (r t : List Nat) (j : Nat) : (copyN r t j).length = r.length := by
  induction j with
  | zero => rfl
  | succ j ih => show (List.set _ _ _).length = _; rw [List.length_set, ih]
theorem powR_len (a : List Nat) (i : Nat) : (powR a i).length = 6 := by
  induction i with
  | zero => rfl
  | succ i ih => show (copyN _ _ _).length = _; rw [copyN_len, ih]
theorem natL64_get (L : List Nat) (i x : Nat) (h : i < L.length) (hx : x = L.getD i 0) {w : World} {b : Nat} (hr : w.row? b = some (natL .u64 L).toArray) : w.cell? ⟨b, i, none⟩ = some (.int .u64 (x : Int)) := by rw [row_cell hr, natL_get _ _ _ h, hx]
theorem natL64_set (L : List Nat) (i x : Nat) {w : World} {b : Nat} (hr : w.row? b = some (natL .u64 L).toArray) : (w.setCell ⟨b, i, none⟩ (.int .u64 (x : Int))).row? b = some (natL .u64 (L.set i x)).toArray := by
  rw [row_setCell_same, hr]
  show some ((natL .u64 L).toArray.setIfInBounds i (.int .u64 (x : Int))) = _
  rw [natL_set]
theorem any_hi (R : List Nat) (k : Nat) (h : ∀ m, k < m → m < 6 → R.getD m 0 = 0) : ((List.range 6).any fun j => decide (k < j) && decide (0 < R.getD j 0)) = false := by
  rw [List.any_eq_false]
  intro m hm
  rw [List.mem_range] at hm
  by_cases hk : k < m
  · rw [h m hk hm]; simp
  · simp [hk]
theorem any_hit (R : List Nat) (k m : Nat) (h1 : k < m) (h2 : m < 6) (h3 : 0 < R.getD m 0) : ((List.range 6).any fun j => decide (k < j) && decide (0 < R.getD j 0)) = true := by
  rw [List.any_eq_true]
  exact ⟨m, List.mem_range.2 h2, by rw [decide_eq_true h1, decide_eq_true h3]; rfl⟩
theorem any_lo (R : List Nat) (k : Nat) (h : ∀ m, m < k → R.getD m 0 = 0) : ((List.range k).any fun j => decide (0 < R.getD j 0)) = false := by
  rw [List.any_eq_false]
  intro m hm
  rw [h m (List.mem_range.1 hm)]; simp
theorem any_low (R : List Nat) (k m : Nat) (h1 : m < k) (h3 : 0 < R.getD m 0) : ((List.range k).any fun j => decide (0 < R.getD j 0)) = true := by
  rw [List.any_eq_true]
  exact ⟨m, List.mem_range.2 h1, decide_eq_true h3⟩
theorem subI {a b : Nat} (h : a = b + 1) : (a : Int) - 1 = (b : Int) := by omega
set_option maxRecDepth 100000 in
set_option maxHeartbeats 1600000 in
theorem above_any (w : World) (y p k : Nat) (hy : y < 18446744073709551616) (hk : k < 6) (hk2 : k ≤ 3) :
    Calls Tryd.prog 17 #[.int .u64 (y : Int), .int .u64 (p : Int), .int .i64 (k : Int)] w fun e w' => e = .returned (.bool (aboveN y p k)) ∧ Chg [] w w' := by
  obtain ⟨y0, hy0⟩ : ∃ z, z = y % 4294967296 := ⟨_, rfl⟩
  obtain ⟨y1, hy1⟩ : ∃ z, z = y / 4294967296 := ⟨_, rfl⟩
  obtain ⟨A, hA⟩ : ∃ A, A = [y0, y1, 0, 0, 0, 0] := ⟨_, rfl⟩
  have e0 : (y : Int) % 4294967296 = (y0 : Int) := by omega
  have e1 : (y : Int) / 4294967296 = (y1 : Int) := by omega
  have e2 : (y : Int).tmod 4294967296 = (y0 : Int) := by rw [Int.tmod_eq_emod_of_nonneg (by omega)]; exact e0
  have e3 : (y : Int).tdiv 4294967296 = (y1 : Int) := by rw [Int.tdiv_eq_ediv_of_nonneg (by omega)]; exact e1
  have e4 : IntKind.u64.wrap (y1 : Int) = (y1 : Int) := by rw [u64w]; omega
  obtain ⟨V, hV⟩ : ∃ V, V = (w.alloc (.cells #[.int .u64 (y0 : Int), .int .u64 (y1 : Int), .int .u64 0, .int .u64 0, .int .u64 0, .int .u64 0] 36)).alloc (.cells #[.int .u64 1, .int .u64 0, .int .u64 0, .int .u64 0, .int .u64 0, .int .u64 0] 36) := ⟨_, rfl⟩
  obtain ⟨B, hB⟩ : ∃ B, B = w.heap.size := ⟨_, rfl⟩
  have rA : V.row? B = some (natL .u64 A).toArray := by rw [hV, hB, hA, row_alloc_past _ _ _ (by simp)]; exact row_alloc_at _ _ _ _ rfl
  have rR : V.row? (B + 1) = some (natL .u64 (powR A 0)).toArray := by rw [hV, hB]; exact row_alloc_at _ _ _ _ (by simp)
  have hc : Chg [] w V := by rw [hV]; exact ((Chg.refl _ _).alloc _).alloc _
  have HRA := Lib.hid rA
  have HRR := Lib.hid rR
  have HC := Lib.hid hc
  have HB := Lib.hid hB
  have HV := Lib.hid hV
  have HA := Lib.hid hA
  have HY : Hid (A = [y % 4294967296, y / 4294967296, 0, 0, 0, 0]) := Lib.hid (by rw [hA, hy0, hy1])
  have HAL : Hid (A.length = 6) := Lib.hid (by rw [hA]; rfl)
  have HK := Lib.hid hk
  have HK2 := Lib.hid hk2
  clear rA rR hc hB hV hA hy0 hy1 hk hk2
  go_enter Tryd.func17, Tryd.ntmps17
  go_upto_region 3 with (fail)
  rw [← HB.out, ← HV.out]
  clear HV e0 e1 e2 e3 e4 hy
  go_wp2_with fail
  go_loopw [9] (fun i wr => ∃ n : Nat, n ≤ k ∧ i = .int .i64 n ∧ wr.row? B = some (natL .u64 A).toArray ∧ wr.row? (B + 1) = some (natL .u64 (powR A n)).toArray ∧ Chg [B + 1] V wr) (fun i _ => k - (intOf i).toNat)
  case atStart => exact ⟨0, by omega, rfl, HRA.out, HRR.out, Chg.refl _ _⟩
  case round =>
    obtain ⟨n, hn, rfl, hra, hrr, hch⟩ := hrel
    have HA1 := Lib.hid hra
    have HR1 := Lib.hid hrr
    have HCH := Lib.hid hch
    have HN := Lib.hid hn
    clear hra hrr hch hn
    by_cases hnk : n < k
    · have HNK := Lib.hid hnk
      have dk : decide ((n : Int) < (k : Int)) = true := by rw [decide_eq_true_eq]; omega
      have dI : (n : Int) < (k : Int) := by omega
      obtain ⟨R, hR⟩ : ∃ R, R = powR A n := ⟨_, rfl⟩
      have HRN : Hid (powR A (n + 1) = copyN R (stepJ R A 5) 6) := Lib.hid (by rw [hR]; rfl)
      have HRL : Hid (R.length = 6) := Lib.hid (by rw [hR]; exact powR_len _ _)
      rw [← hR] at HR1
      obtain ⟨X, hX⟩ : ∃ X, X = wr.alloc (.cells #[.int .u64 0, .int .u64 0, .int .u64 0, .int .u64 0, .int .u64 0, .int .u64 0, .int .u64 0, .int .u64 0] 49) := ⟨_, rfl⟩
      obtain ⟨T, hT⟩ : ∃ T, T = wr.heap.size := ⟨_, rfl⟩
      have hBT : B + 1 < T := by rw [hT]; exact row_lt HR1.out
      have hrT : X.row? T = some (natL .u64 (stepJ R A 0)).toArray := by rw [hX, hT]; exact row_alloc_at _ _ _ _ rfl
      have hcX : Chg [] wr X := by rw [hX]; exact (Chg.refl _ _).alloc _
      have HXA : Hid (X.row? B = some (natL .u64 A).toArray) := Lib.hid (by rw [hcX.row (row_lt HA1.out) (by simp)]; exact HA1.out)
      have HXR : Hid (X.row? (B + 1) = some (natL .u64 R).toArray) := Lib.hid (by rw [hcX.row (row_lt HR1.out) (by simp)]; exact HR1.out)
      have HVX : Hid (Chg [B + 1] V X) := Lib.hid (chg_fresh HCH.out hcX (by simp))
      have HTV : Hid (V.heap.size ≤ T) := Lib.hid (by rw [hT]; exact HCH.out.size)
      have HX := Lib.hid hX
      have HT := Lib.hid hT
      have HBT := Lib.hid hBT
      have HRT := Lib.hid hrT
      clear hR hX hT hBT hrT hcX hnk
      go_upto_region 7 with (fail)
      rw [← HX.out, ← HT.out]
      clear dk dI
      go_wp2_with fail
      go_loopw [11] (fun i wq => ∃ j : Nat, j ≤ 5 ∧ i = .int .i64 j ∧ wq.row? T = some (natL .u64 (stepJ R A j)).toArray ∧ Chg [T] X wq) (fun i _ => 5 - (intOf i).toNat)
      case atStart => exact ⟨0, by omega, rfl, HRT.out, Chg.refl _ _⟩
      case round =>
        obtain ⟨j, hj, rfl, hrj, hcj⟩ := hrel
        have HJR := Lib.hid hrj
        have HJC := Lib.hid hcj
        have HJ := Lib.hid hj
        clear hrj hcj hj
        by_cases hj5 : j < 5
        · have HJ5 := Lib.hid hj5
          have dk : decide ((j : Int) < 5) = true := by rw [decide_eq_true_eq]; omega
          have dI : (j : Int) < 5 := by omega
          obtain ⟨rj, hrj⟩ : ∃ z, z = R.getD j 0 := ⟨_, rfl⟩
          obtain ⟨t0, ht0⟩ : ∃ z, z = stepJ R A j := ⟨_, rfl⟩
          have HT8 : Hid (t0.length = 8) := Lib.hid (by rw [ht0]; exact stepJ_len _ _ _)
          have HSJ : Hid (stepJ R A (j + 1) = (stepL rj A j t0 2).1.set (j + 2) (((stepL rj A j t0 2).1.getD (j + 2) 0 + (stepL rj A j t0 2).2) % 18446744073709551616)) := Lib.hid (by rw [ht0, hrj]; rfl)
          rw [← ht0] at HJR
          have HRJ := Lib.hid hrj
          clear hrj ht0
          go_wp2_with fail
          clear dk dI hj5
          go_loopw [13, 12] (fun i c wp => ∃ l : Nat, l ≤ 2 ∧ i = .int .i64 l ∧ c = .int .u64 ((stepL rj A j t0 l).2 : Int) ∧ wp.row? T = some (natL .u64 (stepL rj A j t0 l).1).toArray ∧ Chg [T] X wp) (fun i _ _ => 2 - (intOf i).toNat)
          case atStart => exact ⟨0, by omega, rfl, rfl, HJR.out, HJC.out⟩
          case round =>
            obtain ⟨l, hl, rfl, rfl, hrl, hcl⟩ := hrel
            have HLR := Lib.hid hrl
            have HLC := Lib.hid hcl
            have HL := Lib.hid hl
            clear hrl hcl hl
            obtain ⟨t, ht⟩ : ∃ z, z = (stepL rj A j t0 l).1 := ⟨_, rfl⟩
            obtain ⟨c, hcc⟩ : ∃ z, z = (stepL rj A j t0 l).2 := ⟨_, rfl⟩
            have htl : t.length = 8 := by rw [ht, stepL_len]; exact HT8.out
            by_cases hl2 : l < 2
            · have HL2 := Lib.hid hl2
              have dk : decide ((l : Int) < 2) = true := by rw [decide_eq_true_eq]; omega
              have dI : (l : Int) < 2 := by omega
              have HST : Hid (stepL rj A j t0 (l + 1) = (t.set (j + l) ((c + (t.getD (j + l) 0 + rj * A.getD l 0 % 18446744073709551616) % 18446744073709551616) % 18446744073709551616 % 4294967296), (c + (t.getD (j + l) 0 + rj * A.getD l 0 % 18446744073709551616) % 18446744073709551616) % 18446744073709551616 / 4294967296)) := Lib.hid (by rw [ht, hcc]; rfl)
              rw [← ht] at HLR
              rw [← hcc]
              obtain ⟨tv, htv⟩ : ∃ z, z = t.getD (j + l) 0 := ⟨_, rfl⟩
              obtain ⟨av, hav⟩ : ∃ z, z = A.getD l 0 := ⟨_, rfl⟩
              obtain ⟨jl, hjl⟩ : ∃ z, z = j + l := ⟨_, rfl⟩
              have hjl8 : jl < 8 := by rw [hjl]; exact Nat.add_lt_add_of_le_of_lt (Nat.le_of_lt_succ HJ5.out) (show l < 4 by omega)
              rw [← hjl] at htv
              have q1 : wr.cell? ⟨T, jl, none⟩ = some (.int .u64 (tv : Int)) := natL64_get t jl tv (by omega) htv HLR.out
              have q2 : wr.cell? ⟨B + 1, j, none⟩ = some (.int .u64 (rj : Int)) := natL64_get R j rj (by rw [HRL.out]; have := HJ5.out; omega) HRJ.out (by rw [HLC.out.row (row_lt HXR.out) (by rw [List.mem_singleton]; have := HBT.out; omega)]; exact HXR.out)
              have q3 : wr.cell? ⟨B, l, none⟩ = some (.int .u64 (av : Int)) := natL64_get A l av (by rw [HAL.out]; omega) hav (by rw [HLC.out.row (row_lt HXA.out) (by rw [List.mem_singleton]; have := HBT.out; omega)]; exact HXA.out)
              have f1 : wr.frozen? ⟨T, jl, none⟩ = false := row_free HLR.out _
              obtain ⟨z1, hz1⟩ : ∃ z, z = rj * av % 18446744073709551616 := ⟨_, rfl⟩
              obtain ⟨z2, hz2⟩ : ∃ z, z = (tv + z1) % 18446744073709551616 := ⟨_, rfl⟩
              obtain ⟨z3, hz3⟩ : ∃ z, z = (c + z2) % 18446744073709551616 := ⟨_, rfl⟩
              obtain ⟨z4, hz4⟩ : ∃ z, z = z3 % 4294967296 := ⟨_, rfl⟩
              obtain ⟨z5, hz5⟩ : ∃ z, z = z3 / 4294967296 := ⟨_, rfl⟩
              have w1 := wmul hz1
              have w2 := wadd hz2
              have w3 := wadd hz3
              have w4 := wtmod hz4
              have w4' := wmod hz4
              have w5 := wtdiv hz5
              have w5' := wdiv hz5
              have w6 := widl (d32 hz5 (m64 hz3))
              have HS2 : Hid (stepL rj A j t0 (l + 1) = (t.set jl z4, z5)) := Lib.hid (by rw [HST.out, ← hjl, ← htv, ← hav, ← hz1, ← hz2, ← hz3, ← hz4, ← hz5])
              have jlI := addI hjl
              have jlB := ltI8 hjl8
              have jN : j < 6 := Nat.lt_of_lt_of_le HJ5.out (by decide)
              have lN : l < 6 := Nat.lt_of_lt_of_le hl2 (by decide)
              have jB := ltI6 jN
              have lB := ltI6 lN
              have e9 : wrap64 (jl : Int) = (jl : Int) := idw64 (Nat.lt_trans hjl8 (by decide))
              have e10 : IntKind.i64.wrap (jl : Int) = (jl : Int) := idi64 (Nat.lt_trans hjl8 (by decide))
              clear ht hcc htl htv hav hjl hz1 hz2 hz3 hz4 hz5 HST hl2
              go_upto_region 14 with (fail)
              refine wp_region_C (fun w' => w'.cell? ⟨T, jl, none⟩ = some (.int .u64 (tv : Int)) ∧ w'.cell? ⟨B + 1, j, none⟩ = some (.int .u64 (rj : Int)) ∧ w'.cell? ⟨B, l, none⟩ = some (.int .u64 (av : Int))) [(0, 0), (1, 0), (2, 0), (3, 0), (4, 0), (5, 1), (6, 0), (7, 0), (8, 0), (9, 1), (10, 0), (11, 0), (12, 0), (13, 1), (14, 0), (15, 0), (16, 0), (17, 3)] rfl (by kernel_rfl) ?hSA ?hTA
              case hSA => exact ⟨q1, q2, q3⟩
              refine wpT_pureD (v := ?_) (some 36) rfl rfl (by rfl) (fun w' => ?_) ?_
              rotate_left
              · (go_simp; try with_reducible rfl)
              try simp only [Act.put, List.setIfInBounds_toArray, List.set_cons_zero, List.set_cons_succ]
              refine wpT_pureD (v := ?_) (some 37) rfl rfl (by rfl) (fun w' => ?_) ?_
              rotate_left
              · (go_simp; try with_reducible rfl)
              try simp only [Act.put, List.setIfInBounds_toArray, List.set_cons_zero, List.set_cons_succ]
              refine wpT_pureD (v := ?_) (some 38) rfl rfl (by rfl) (fun w' => ?_) ?_
              rotate_left
              · (go_simp; try with_reducible rfl)
              try simp only [Act.put, List.setIfInBounds_toArray, List.set_cons_zero, List.set_cons_succ]
              refine wpT_pureD (v := ?_) (some 39) rfl rfl (by rfl) (fun w' => ?_) ?_
              rotate_left
              · (go_simp; try with_reducible rfl)
              try simp only [Act.put, List.setIfInBounds_toArray, List.set_cons_zero, List.set_cons_succ]
              refine wpT_pureD (v := ?_) (some 40) rfl rfl (by rfl) (fun w' => ?_) ?_
              rotate_left
              · (go_simp; try with_reducible rfl)
              try simp only [Act.put, List.setIfInBounds_toArray, List.set_cons_zero, List.set_cons_succ]
              refine wpT_readD (v := ?_) (some 41) rfl rfl (by rfl) (fun w' hw => ?_) ?_
              rotate_left
              · (obtain ⟨q0, q1, q2⟩ := hw; go_simp; try with_reducible rfl)
              try simp only [Act.put, List.setIfInBounds_toArray, List.set_cons_zero, List.set_cons_succ]
              refine wpT_pureD (v := ?_) (some 42) rfl rfl (by rfl) (fun w' => ?_) ?_
              rotate_left
              · (go_simp; try with_reducible rfl)
              try simp only [Act.put, List.setIfInBounds_toArray, List.set_cons_zero, List.set_cons_succ]
              refine wpT_pureD (v := ?_) (some 43) rfl rfl (by rfl) (fun w' => ?_) ?_
              rotate_left
              · (go_simp; try with_reducible rfl)
              try simp only [Act.put, List.setIfInBounds_toArray, List.set_cons_zero, List.set_cons_succ]
              refine wpT_pureD (v := ?_) (some 44) rfl rfl (by rfl) (fun w' => ?_) ?_
              rotate_left
              · (go_simp; try with_reducible rfl)
              try simp only [Act.put, List.setIfInBounds_toArray, List.set_cons_zero, List.set_cons_succ]
              refine wpT_readD (v := ?_) (some 45) rfl rfl (by rfl) (fun w' hw => ?_) ?_
              rotate_left
              · (obtain ⟨q0, q1, q2⟩ := hw; go_simp; try with_reducible rfl)
              try simp only [Act.put, List.setIfInBounds_toArray, List.set_cons_zero, List.set_cons_succ]
              refine wpT_pureD (v := ?_) (some 46) rfl rfl (by rfl) (fun w' => ?_) ?_
              rotate_left
              · (go_simp; try with_reducible rfl)
              try simp only [Act.put, List.setIfInBounds_toArray, List.set_cons_zero, List.set_cons_succ]
              refine wpT_pureD (v := ?_) (some 47) rfl rfl (by rfl) (fun w' => ?_) ?_
              rotate_left
              · (go_simp; try with_reducible rfl)
              try simp only [Act.put, List.setIfInBounds_toArray, List.set_cons_zero, List.set_cons_succ]
              refine wpT_pureD (v := ?_) (some 48) rfl rfl (by rfl) (fun w' => ?_) ?_
              rotate_left
              · (go_simp; try with_reducible rfl)
              try simp only [Act.put, List.setIfInBounds_toArray, List.set_cons_zero, List.set_cons_succ]
              refine wpT_readD (v := ?_) (some 49) rfl rfl (by rfl) (fun w' hw => ?_) ?_
              rotate_left
              · (obtain ⟨q0, q1, q2⟩ := hw; go_simp; try with_reducible rfl)
              try simp only [Act.put, List.setIfInBounds_toArray, List.set_cons_zero, List.set_cons_succ]
              refine wpT_pureD (v := ?_) (some 50) rfl rfl (by rfl) (fun w' => ?_) ?_
              rotate_left
              · (go_simp; try with_reducible rfl)
              try simp only [Act.put, List.setIfInBounds_toArray, List.set_cons_zero, List.set_cons_succ]
              refine wpT_pureD (v := ?_) (some 51) rfl rfl (by rfl) (fun w' => ?_) ?_
              rotate_left
              · (go_simp; try with_reducible rfl)
              try simp only [Act.put, List.setIfInBounds_toArray, List.set_cons_zero, List.set_cons_succ]
              refine wpT_pureD (v := ?_) (some 52) rfl rfl (by rfl) (fun w' => ?_) ?_
              rotate_left
              · (go_simp; try with_reducible rfl)
              try simp only [Act.put, List.setIfInBounds_toArray, List.set_cons_zero, List.set_cons_succ]
              refine wpT_brk rfl (by rfl) (fun K hK => ?_)
              go_wp2_with fail
              have W5 := Lib.hid w5
              have W5' := Lib.hid w5'
              have W6 := Lib.hid w6
              refine wpT_end ?_
              clear w1 w2 w3 w5 w5' w6 q2 q3 jB lB jN lN
              go_upto_region 15 with (fail)
              go_upto_region 16 with (fail)
              have w5 := W5.out
              have w5' := W5'.out
              have w6 := W6.out
              clear w4 w4' jlI jlB e9 e10 q1 f1
              go_wp2
              case roundEnd =>
                refine ⟨⟨l + 1, HL2.out, rfl, by rw [HS2.out], ?_, ?_⟩, by simp only [intOf]; have := HL2.out; omega⟩
                · rw [HS2.out]
                  simp only [row_drew]
                  exact natL64_set _ _ _ HLR.out
                · exact (HLC.out.setCell (.inl (by simp)) _).drew
            · have hl22 : l = 2 := by have := HL.out; omega
              have dk : decide ((l : Int) < 2) = false := by rw [decide_eq_false_iff_not]; omega
              have dN : ¬ l < 2 := hl2
              rw [hl22] at ht hcc
              rw [hl22] at HLR
              rw [show (stepL rj A j t0 l).2 = c by rw [hl22, hcc]]
              rw [← ht] at HLR
              have HSJ2 := HSJ.out
              rw [← ht, ← hcc] at HSJ2
              obtain ⟨jj, hjj⟩ : ∃ z, z = j + 2 := ⟨_, rfl⟩
              have hjj8 : jj < 8 := by have := HJ5.out; omega
              obtain ⟨tv, htv⟩ : ∃ z, z = t.getD jj 0 := ⟨_, rfl⟩
              obtain ⟨z1, hz1⟩ : ∃ z, z = (tv + c) % 18446744073709551616 := ⟨_, rfl⟩
              have q1 : wr.cell? ⟨T, jj, none⟩ = some (.int .u64 (tv : Int)) := natL64_get t jj tv (by omega) htv HLR.out
              have f1 : wr.frozen? ⟨T, jj, none⟩ = false := row_free HLR.out _
              have HS3 : Hid (stepJ R A (j + 1) = t.set jj z1) := Lib.hid (by rw [HSJ2, ← hjj, ← htv, hz1])
              have w1 := wadd hz1
              have jI : (j : Int) + 2 = (jj : Int) := by rw [hjj]; rfl
              have jB := ltI8 hjj8
              have e9 : wrap64 (jj : Int) = (jj : Int) := idw64 (Nat.lt_trans hjj8 (by decide))
              have e10 : IntKind.i64.wrap (jj : Int) = (jj : Int) := idi64 (Nat.lt_trans hjj8 (by decide))
              have jL := ltI5 HJ5.out
              clear ht hcc htl htv hl2 hl22 hjj hz1 HSJ2
              go_upto_region 9 with (fail)
              clear w1 jI jB e9 e10 q1 f1 hjj8
              go_wp2
              case roundEnd =>
                refine ⟨⟨j + 1, HJ5.out, rfl, ?_, ?_⟩, by simp only [intOf]; have := HJ5.out; omega⟩
                · rw [HS3.out]
                  exact natL64_set _ _ _ HLR.out
                · exact (HLC.out.setCell (.inl (by simp)) _)
        · have hj55 : j = 5 := by have := HJ.out; omega
          have dk : decide ((j : Int) < 5) = false := by rw [decide_eq_false_iff_not]; omega
          have dN : ¬ j < 5 := hj5
          rw [hj55] at HJR
          obtain ⟨TT, hTT⟩ : ∃ z, z = stepJ R A 5 := ⟨_, rfl⟩
          have HRN2 := HRN.out
          rw [← hTT] at HJR HRN2
          have HRN3 := Lib.hid HRN2
          have HTL : Hid (TT.length = 8) := Lib.hid (by rw [hTT]; exact stepJ_len _ _ _)
          have hwR : wr.row? (B + 1) = some (natL .u64 R).toArray := by rw [HJC.out.row (row_lt HXR.out) (by rw [List.mem_singleton]; have := HBT.out; omega)]; exact HXR.out
          have hwA : wr.row? B = some (natL .u64 A).toArray := by rw [HJC.out.row (row_lt HXA.out) (by rw [List.mem_singleton]; have := HBT.out; omega)]; exact HXA.out
          have HWR := Lib.hid hwR
          have HWA := Lib.hid hwA
          have HWV : Hid (Chg [B + 1] V wr) := Lib.hid (chg_fresh HVX.out HJC.out (by intro g hg; rw [List.mem_singleton] at hg; subst hg; exact .inr HTV.out))
          clear hTT HRN2 hwR hwA hj5 hj55
          go_wp2_with fail
          clear dk dN
          go_loopw [14] (fun i wq => ∃ q : Nat, q ≤ 6 ∧ i = .int .i64 q ∧ wq.row? (B + 1) = some (natL .u64 (copyN R TT q)).toArray ∧ Chg [B + 1] wr wq) (fun i _ => 6 - (intOf i).toNat)
          case atStart => exact ⟨0, by omega, rfl, HWR.out, Chg.refl _ _⟩
          case round =>
            obtain ⟨q, hq, rfl, hrq, hcq⟩ := hrel
            have HQR := Lib.hid hrq
            have HQC := Lib.hid hcq
            have HQ := Lib.hid hq
            clear hrq hcq hq
            by_cases hq6 : q < 6
            · have HQ6 := Lib.hid hq6
              have dk : decide ((q : Int) < 6) = true := by rw [decide_eq_true_eq]; omega
              obtain ⟨tv, htv⟩ : ∃ z, z = TT.getD q 0 := ⟨_, rfl⟩
              obtain ⟨rv, hrv⟩ : ∃ z, z = (copyN R TT q).getD q 0 := ⟨_, rfl⟩
              have q1 : wr.cell? ⟨T, q, none⟩ = some (.int .u64 (tv : Int)) := natL64_get TT q tv (by rw [HTL.out]; omega) htv (by rw [HQC.out.row (row_lt HJR.out) (by rw [List.mem_singleton]; have := HBT.out; omega)]; exact HJR.out)
              have q2 : wr.cell? ⟨B + 1, q, none⟩ = some (.int .u64 (rv : Int)) := natL64_get _ q rv (by rw [copyN_len, HRL.out]; omega) hrv HQR.out
              have f2 : wr.frozen? ⟨B + 1, q, none⟩ = false := row_free HQR.out _
              have HCN : Hid (copyN R TT (q + 1) = (copyN R TT q).set q tv) := Lib.hid (by rw [htv]; rfl)
              have qI6 := ltI6 hq6
              have q8 : q < 8 := by omega
              have qI8 := ltI8 q8
              clear htv hrv
              go_wp2
              case roundEnd =>
                refine ⟨⟨q + 1, HQ6.out, rfl, ?_, ?_⟩, by simp only [intOf]; have := HQ6.out; omega⟩
                · rw [HCN.out]
                  exact natL64_set _ _ _ HQR.out
                · exact (HQC.out.setCell (.inl (by simp)) _)
            · have hq66 : q = 6 := by have := HQ.out; omega
              have dk : decide ((q : Int) < 6) = false := by rw [decide_eq_false_iff_not]; omega
              have dN : ¬ q < 6 := hq6
              rw [hq66] at HQR
              have nL : (n : Int) < 5 := ltI5 (by have := HNK.out; have := HK2.out; omega)
              clear hq66 hq6
              go_wp2
              case roundEnd =>
                refine ⟨⟨n + 1, HNK.out, rfl, ?_, ?_, ?_⟩, by simp only [intOf]; have := HNK.out; omega⟩
                · rw [HQC.out.row (row_lt HWA.out) (by simp)]; exact HWA.out
                · rw [HRN3.out]; exact HQR.out
                · exact HWV.out.trans HQC.out
    · have hnk2 : n = k := by have := HN.out; omega
      have dk : decide ((n : Int) < (k : Int)) = false := by rw [decide_eq_false_iff_not]; omega
      have dN : ¬ n < k := hnk
      rw [hnk2] at HR1
      obtain ⟨R, hR⟩ : ∃ R, R = powR A k := ⟨_, rfl⟩
      rw [← hR] at HR1
      have HRL : Hid (R.length = 6) := Lib.hid (by rw [hR]; exact powR_len _ _)
      have HAB : Hid (aboveN y p k = if (List.range 6).any (fun j => decide (k < j) && decide (0 < R.getD j 0)) then true else if R.getD k 0 ≠ p then decide (p < R.getD k 0) else (List.range k).any fun j => decide (0 < R.getD j 0)) := Lib.hid (by rw [hR, HY.out]; rfl)
      have HCW : Hid (Chg [] w wr) := Lib.hid (chg_new HC.out HCH.out (by intro g hg; rw [List.mem_singleton] at hg; subst hg; have := HB.out; omega))
      clear hR hnk hnk2
      go_wp2_with fail
      clear dk dN
      go_loopw [15] (fun i wq => ∃ q : Nat, q ≤ 5 ∧ k ≤ q ∧ i = .int .i64 q ∧ (∀ m, q < m → m < 6 → R.getD m 0 = 0) ∧ Chg [] wr wq) (fun i _ => (intOf i).toNat)
      case atStart => exact ⟨5, Nat.le_refl _, by have := HK2.out; omega, rfl, fun m h1 h2 => by omega, Chg.refl _ _⟩
      case round =>
        obtain ⟨q, hq, hkq, rfl, hzr, hcq⟩ := hrel
        have HQ := Lib.hid hq
        have HKQ := Lib.hid hkq
        have HZR := Lib.hid hzr
        have HQC := Lib.hid hcq
        have HRQ := Lib.hid (show wr.row? (B + 1) = some (natL .u64 R).toArray by rw [hcq.row (row_lt HR1.out) (by simp)]; exact HR1.out)
        have HCQ : Hid (Chg [] w wr) := Lib.hid (HCW.out.trans hcq)
        clear hq hkq hzr hcq
        obtain ⟨rv, hrv⟩ : ∃ z, z = R.getD q 0 := ⟨_, rfl⟩
        have q1 : wr.cell? ⟨B + 1, q, none⟩ = some (.int .u64 (rv : Int)) := natL64_get R q rv (by rw [HRL.out]; have := HQ.out; omega) hrv HRQ.out
        have qN : q < 6 := by have := HQ.out; omega
        have qI := ltI6 qN
        by_cases hkq2 : k < q
        · have dI : (k : Int) < (q : Int) := by omega
          obtain ⟨p1, hp1⟩ : ∃ z, q = z + 1 := ⟨q - 1, by omega⟩
          have sI := subI hp1
          by_cases h0 : 0 < rv
          · have d0 : (0 : Int) < (rv : Int) := by omega
            have HF : Hid (aboveN y p k = true) := Lib.hid (by rw [HAB.out, if_pos (any_hit R k q hkq2 qN (by rw [← hrv]; exact h0))])
            clear hrv hp1 sI
            go_wp2
            go_ret
            exact ⟨by rw [HF.out]; rfl, HCQ.out⟩
          · have d0 : ¬ (0 : Int) < (rv : Int) := by omega
            have HZ2 : Hid (∀ m, p1 < m → m < 6 → R.getD m 0 = 0) := Lib.hid (fun m h1 h2 => by
              by_cases hm : m = q
              · rw [hm, ← hrv]; omega
              · exact HZR.out m (by omega) h2)
            have HP1 := Lib.hid hp1
            have hp5 : p1 < 5 := by omega
            have pI := ltI5 hp5
            have HKP : Hid (k ≤ p1) := Lib.hid (by omega)
            clear hrv hp1
            go_wp2
            case roundEnd => exact ⟨⟨p1, by omega, HKP.out, rfl, HZ2.out, HQC.out⟩, by simp only [intOf, Int.toNat_natCast]; have := HP1.out; omega⟩
        · have hqk : q = k := by have := HKQ.out; omega
          have dI : ¬ (k : Int) < (q : Int) := by omega
          rw [hqk] at hrv
          have HHI : Hid (((List.range 6).any fun j => decide (k < j) && decide (0 < R.getD j 0)) = false) := Lib.hid (any_hi R k (by rw [← hqk]; exact HZR.out))
          have HAB2 : Hid (aboveN y p k = if rv ≠ p then decide (p < rv) else (List.range k).any fun j => decide (0 < R.getD j 0)) := Lib.hid (by rw [HAB.out, HHI.out, if_neg (by simp), ← hrv])
          have qk : wr.cell? ⟨B + 1, k, none⟩ = some (.int .u64 (rv : Int)) := by rw [← hqk]; exact q1
          have kN : k < 6 := HK.out
          have kI := ltI6 kN
          clear q1 hqk hrv
          by_cases hrp : rv = p
          · have rI : (rv : Int) = (p : Int) := by omega
            have HAB3 : Hid (aboveN y p k = (List.range k).any fun j => decide (0 < R.getD j 0)) := Lib.hid (by rw [HAB2.out, if_neg (by simp [hrp])])
            clear hrp
            go_wp2_with fail
            clear dI rI
            go_loopw [16] (fun i wq => ∃ q : Nat, q ≤ k ∧ i = .int .i64 q ∧ (∀ m, m < q → R.getD m 0 = 0) ∧ Chg [] w wq ∧ wq.row? (B + 1) = some (natL .u64 R).toArray) (fun i _ => k - (intOf i).toNat)
            case atStart => exact ⟨0, by omega, rfl, fun m h1 => by omega, HCQ.out, HRQ.out⟩
            case round =>
              obtain ⟨q2, hq, rfl, hzr, hcq, hrq⟩ := hrel
              have HQ2 := Lib.hid hq
              have HZ2 := Lib.hid hzr
              have HC2 := Lib.hid hcq
              have HR2 := Lib.hid hrq
              clear hq hzr hcq hrq
              obtain ⟨rw1, hrw⟩ : ∃ z, z = R.getD q2 0 := ⟨_, rfl⟩
              by_cases hqk2 : q2 < k
              · have dI : (q2 : Int) < (k : Int) := by omega
                have q1 : wr.cell? ⟨B + 1, q2, none⟩ = some (.int .u64 (rw1 : Int)) := natL64_get R q2 rw1 (by rw [HRL.out]; have := HK.out; omega) hrw HR2.out
                have qN2 : q2 < 6 := by have := HK.out; omega
                have qI2 := ltI6 qN2
                by_cases h0 : 0 < rw1
                · have d0 : (0 : Int) < (rw1 : Int) := by omega
                  have HF : Hid (aboveN y p k = true) := Lib.hid (by rw [HAB3.out, any_low R k q2 hqk2 (by rw [← hrw]; exact h0)])
                  clear hrw
                  go_wp2
                  go_ret
                  exact ⟨by rw [HF.out]; rfl, HC2.out⟩
                · have d0 : ¬ (0 : Int) < (rw1 : Int) := by omega
                  have HZ3 : Hid (∀ m, m < q2 + 1 → R.getD m 0 = 0) := Lib.hid (fun m h1 => by
                    by_cases hm : m = q2
                    · rw [hm, ← hrw]; omega
                    · exact HZ2.out m (by omega))
                  have HQK := Lib.hid hqk2
                  clear hrw
                  go_wp2
                  case roundEnd => exact ⟨⟨q2 + 1, HQK.out, rfl, HZ3.out, HC2.out, HR2.out⟩, by simp only [intOf]; have := HQK.out; omega⟩
              · have hqk3 : q2 = k := by have := HQ2.out; omega
                have dI : ¬ (q2 : Int) < (k : Int) := by omega
                have HF : Hid (aboveN y p k = false) := Lib.hid (by rw [HAB3.out, any_lo R k (by rw [← hqk3]; exact HZ2.out)])
                clear hqk3 hrw
                go_wp2
                go_ret
                exact ⟨by rw [HF.out]; rfl, HC2.out⟩
          · have rI : ¬ (rv : Int) = (p : Int) := by omega
            have HAB3 : Hid (aboveN y p k = decide (p < rv)) := Lib.hid (by rw [HAB2.out, if_pos hrp])
            go_wp2_with fail
            go_ret
            refine ⟨?_, HCQ.out⟩
            rw [HAB3.out]
            rfl
end Go.Proofs.L
