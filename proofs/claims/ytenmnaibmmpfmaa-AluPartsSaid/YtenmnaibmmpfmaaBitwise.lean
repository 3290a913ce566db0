/- Proved here: lemmas and contracts (Bitwise) for the laws of this seat, for all values of the stated types; no further condition. -/
import Derived.Test.YtenmnaibmmpfmaaNames
open Go Go.RowKit Go.Lib
namespace Go.Proofs.L
def bitN (a k : Nat) : Nat := (a.testBit k).toNat
theorem bitN_lt (a k : Nat) : bitN a k < 2 := by unfold bitN; cases a.testBit k <;> simp
theorem bitN_nat (a k : Nat) : a / 2 ^ k % 2 = bitN a k := by
  unfold bitN; rw [Nat.testBit_eq_decide_div_mod_eq]
  have := Nat.mod_two_eq_zero_or_one (a / 2 ^ k)
  rcases this with h | h <;> simp [h]
theorem bit_succ (x k : Nat) : x % 2 ^ (k + 1) = x % 2 ^ k + bitN x k * 2 ^ k := by
  rw [Nat.mod_pow_succ, bitN_nat, Nat.mul_comm (2 ^ k)]
theorem bitN_div (a k : Nat) : (a : Int) / 2 ^ k % 2 = (bitN a k : Int) := by
  rw [← bitN_nat a k]; push_cast; rfl
set_option maxRecDepth 100000 in
set_option maxHeartbeats 1600000 in
theorem bitwise_any (a b x : Nat) (tbl : Array Value) (ht : tbl.size = 4) (hx : x < 4294967296) (hb : ∀ k, tbl[bitN a k * 2 + bitN b k]? = some (.int .i64 (bitN x k : Int))) (w : World) :
    Calls Try.prog 26 #[.int .i64 a, .int .i64 b, .agg tbl] w fun e w' => e = .returned (.int .i64 x) ∧ Below w.heap.size w w' := by
  obtain ⟨W, hW⟩ : ∃ W, W = w.alloc (.cells tbl 44) := ⟨_, rfl⟩
  have hr : W.row? w.heap.size = some tbl := by rw [hW, row_alloc_at _ _ _ _ rfl]
  have hB : Below w.heap.size w W := by rw [hW]; exact (Below.refl _ _).alloc (Nat.le_refl _) _
  have HB := Lib.hid hb
  have HT := Lib.hid ht
  have HW := Lib.hid hW
  clear hb ht hW
  go_enter Try.func26, Try.ntmps26
  go_wp2
  rw [← HW.out]
  go_loopw [7, 8] (fun r i wr => ∃ k : Nat, k ≤ 32 ∧ i = .int .i64 k ∧ r = .int .i64 ((x % 2 ^ k : Nat) : Int) ∧ wr.row? w.heap.size = some tbl ∧ Below w.heap.size w wr) (fun _ i _ => 32 - (intOf i).toNat)
  case atStart => exact ⟨0, by omega, rfl, by simp [Nat.mod_one], hr, hB⟩
  case round =>
    obtain ⟨k, hk, rfl, rfl, hr1, hB1⟩ := hrel
    clear hr hB HW
    by_cases hlt : k < 32
    · have l1 := bitN_lt a k
      have l2 := bitN_lt b k
      have c1 : wr.cell? ⟨w.heap.size, bitN a k * 2 + bitN b k, none⟩ = some (.int .i64 (bitN x k : Int)) := by rw [row_cell hr1, HB.out k]
      obtain ⟨A, hA⟩ : ∃ A, A = bitN a k := ⟨_, rfl⟩
      obtain ⟨B, hB'⟩ : ∃ B, B = bitN b k := ⟨_, rfl⟩
      have e1 := bitN_div a k
      have e2 := bitN_div b k
      rw [← hA] at e1 c1 l1
      rw [← hB'] at e2 c1 l2
      clear hA hB'
      have n1 : (0 : Int) ≤ (a : Int) / 2 ^ k := Int.ediv_nonneg (by omega) (Int.le_of_lt (Int.pow_pos (by decide)))
      have n2 : (0 : Int) ≤ (b : Int) / 2 ^ k := Int.ediv_nonneg (by omega) (Int.le_of_lt (Int.pow_pos (by decide)))
      have t1 : ((a : Int) / 2 ^ k).tmod 2 = A := by rw [Int.tmod_eq_emod_of_nonneg n1]; exact e1
      have t2 : ((b : Int) / 2 ^ k).tmod 2 = B := by rw [Int.tmod_eq_emod_of_nonneg n2]; exact e2
      have s1 : IntKind.i64.wrap ((A : Int) * 2) = A * 2 := IntWalk.i64_in _ (by omega)
      have s2 : IntKind.i64.wrap ((A : Int) * 2 + B) = A * 2 + B := IntWalk.i64_in _ (by omega)
      have s3 : (0 : Int) ≤ (A : Int) * 2 + B := by omega
      have s4 : (A : Int) * 2 + B < 4 := by omega
      have s5 : ((A : Int) * 2 + B).toNat = A * 2 + B := by omega
      have hs := bit_succ x k
      have p1 : x % 2 ^ (k + 1) ≤ x := Nat.mod_le _ _
      have q0 : ((bitN x k : Int) * 2 ^ k) = ((bitN x k * 2 ^ k : Nat) : Int) := by push_cast; rfl
      have v1 : IntKind.i64.wrap ((bitN x k : Int) * 2 ^ k) = (bitN x k : Int) * 2 ^ k := by rw [q0]; exact IntWalk.i64_in _ (by omega)
      have v2 : IntKind.i64.wrap (((x % 2 ^ k : Nat) : Int) + (bitN x k : Int) * 2 ^ k) = ((x % 2 ^ (k + 1) : Nat) : Int) := by rw [q0, hs]; exact IntWalk.i64_in _ (by omega)
      have w1 : IntKind.i64.wrap ((k : Int) + 1) = (k : Int) + 1 := IntWalk.i64_in _ (by omega)
      obtain ⟨y, hy⟩ : ∃ y : Int, y = ((x % 2 ^ (k + 1) : Nat) : Int) := ⟨_, rfl⟩
      obtain ⟨z, hz⟩ : ∃ z : Int, z = ((x % 2 ^ k : Nat) : Int) := ⟨_, rfl⟩
      rw [← hz, ← hy] at v2
      rw [← hz]
      have HY := Lib.hid hy
      clear hs p1 q0 hy hz
      go_wp2_with fail
      go_quiet (fail)
      go_wp2
      go_roundw
      case rel => exact ⟨k + 1, hlt, by go_num, by rw [← HY.out], by rw [row_drewN]; exact hr1, below_drewN' hB1 _⟩
      case measure => simp [intOf]; omega
    · obtain rfl : k = 32 := by omega
      go_wp2
      go_ret
      exact ⟨ret_i (by rw [Nat.mod_eq_of_lt (by omega)]), hB1⟩
theorem bitN_xor (a b k : Nat) : bitN (a ^^^ b) k = (bitN a k + bitN b k) % 2 := by
  unfold bitN; rw [Nat.testBit_xor]; cases a.testBit k <;> cases b.testBit k <;> rfl
theorem bitN_or (a b k : Nat) : bitN (a ||| b) k = (bitN a k + bitN b k + bitN a k * bitN b k) % 2 := by
  unfold bitN; rw [Nat.testBit_or]; cases a.testBit k <;> cases b.testBit k <;> rfl
theorem bitN_and (a b k : Nat) : bitN (a &&& b) k = bitN a k * bitN b k := by
  unfold bitN; rw [Nat.testBit_and]; cases a.testBit k <;> cases b.testBit k <;> rfl
theorem xor_any (a b : Nat) (ha : a < 4294967296) (hb : b < 4294967296) (w : World) :
    Calls Try.prog 26 #[.int .i64 a, .int .i64 b, .agg #[.int .i64 0, .int .i64 1, .int .i64 1, .int .i64 0]] w fun e w' => e = .returned (.int .i64 ((a ^^^ b : Nat) : Int)) ∧ Below w.heap.size w w' :=
  bitwise_any a b (a ^^^ b) _ rfl (Nat.xor_lt_two_pow (n := 32) ha hb) (fun k => by
    rw [bitN_xor]; have h1 := bitN_lt a k; have h2 := bitN_lt b k
    generalize bitN a k = x at *; generalize bitN b k = y at *
    have hx : x = 0 ∨ x = 1 := by omega
    have hy : y = 0 ∨ y = 1 := by omega
    rcases hx with rfl | rfl <;> rcases hy with rfl | rfl <;> rfl) w
theorem or_any (a b : Nat) (ha : a < 4294967296) (hb : b < 4294967296) (w : World) :
    Calls Try.prog 26 #[.int .i64 a, .int .i64 b, .agg #[.int .i64 0, .int .i64 1, .int .i64 1, .int .i64 1]] w fun e w' => e = .returned (.int .i64 ((a ||| b : Nat) : Int)) ∧ Below w.heap.size w w' :=
  bitwise_any a b (a ||| b) _ rfl (Nat.or_lt_two_pow (n := 32) ha hb) (fun k => by
    rw [bitN_or]; have h1 := bitN_lt a k; have h2 := bitN_lt b k
    generalize bitN a k = x at *; generalize bitN b k = y at *
    have hx : x = 0 ∨ x = 1 := by omega
    have hy : y = 0 ∨ y = 1 := by omega
    rcases hx with rfl | rfl <;> rcases hy with rfl | rfl <;> rfl) w
theorem and_any (a b : Nat) (ha : a < 4294967296) (w : World) :
    Calls Try.prog 26 #[.int .i64 a, .int .i64 b, .agg #[.int .i64 0, .int .i64 0, .int .i64 0, .int .i64 1]] w fun e w' => e = .returned (.int .i64 ((a &&& b : Nat) : Int)) ∧ Below w.heap.size w w' :=
  bitwise_any a b (a &&& b) _ rfl (Nat.lt_of_le_of_lt Nat.and_le_left ha) (fun k => by
    rw [bitN_and]; have h1 := bitN_lt a k; have h2 := bitN_lt b k
    generalize bitN a k = x at *; generalize bitN b k = y at *
    have hx : x = 0 ∨ x = 1 := by omega
    have hy : y = 0 ∨ y = 1 := by omega
    rcases hx with rfl | rfl <;> rcases hy with rfl | rfl <;> rfl) w
end Go.Proofs.L
