/- Proved here: lemmas and contracts (P6) for the laws of this seat, for all values of the stated types; no further condition. -/
import Derived.Test.YtikbkhhgbkpijaaP5b
open Go Go.RowKit Go.Lib
namespace Go.Proofs.L
attribute [local go_sem] mem_size mem_all
attribute [local go_sem ↓] z72
theorem vAnd (o x y X k n : Nat) (hx : x < 4294967296) (hy : y < 4294967296) (hX : X = x + y * 4294967296) (h : k + n ≤ 8) (M : Nat) (hM : M + 1 = 2 ^ (8 * n)) (hM2 : M < 18446744073709551616) :
    bits .and .u64 ((X : Int) / 2 ^ (8 * k)) (M : Int) = (leN (F8 o x y) (o + k) n : Int) := by
  have e : (X : Int) / 2 ^ (8 * k) = ((X / 2 ^ (8 * k) : Nat) : Int) := by push_cast; rfl
  have hX2 : X < 18446744073709551616 := by omega
  have hq : X / 2 ^ (8 * k) < 18446744073709551616 := Nat.lt_of_le_of_lt (Nat.div_le_self _ _) hX2
  rw [e]
  show IntKind.u64.wrap ((BitVec.ofInt 64 ((X / 2 ^ (8 * k) : Nat) : Int) &&& BitVec.ofInt 64 (M : Int)).toNat : Int) = _
  rw [BitVec.toNat_and, BitVec.ofInt_natCast, BitVec.ofInt_natCast, BitVec.toNat_ofNat, BitVec.toNat_ofNat, Nat.mod_eq_of_lt hq, Nat.mod_eq_of_lt hM2]
  have hM' : M = 2 ^ (8 * n) - 1 := by omega
  rw [F8_le o x y hx k n h, hM', Nat.and_two_pow_sub_one_eq_mod, ← hX]
  have hl := Nat.mod_le (X / 2 ^ (8 * k)) (2 ^ (8 * n))
  exact u64_id (by omega) (by omega)
set_option maxRecDepth 100000 in
set_option maxHeartbeats 3200000 in
theorem words_calls (a0 x y : Nat) (hx : x < 4294967296) (hy : y < 4294967296) (w : World) : Calls Try.prog 3 #[.int .u32 (a0 : Int), .int .u32 (x : Int), .int .u32 (y : Int)] w fun e w' => e = .returned (.bool true) ∧ Below w.heap.size w w' := by
  obtain ⟨o, hod⟩ : ∃ o, o = a0 % 65528 := ⟨_, rfl⟩
  have ho : o < 65528 := by omega
  have e1 : (a0 : Int).tmod 65528 = (o : Int) := by rw [Int.tmod_eq_emod_of_nonneg (by omega)]; omega
  clear hod
  obtain ⟨a, had⟩ : ∃ a : Nat, a = o + 2147483648 := ⟨_, rfl⟩
  have HA : Hid (a = o + 2147483648) := had
  have e2 : IntKind.u32.wrap (2147483648 + (o : Int)) = a := by rw [had]; simp [IntKind.wrap, IntKind.bits, IntKind.signed]; omega
  have e0 : IntKind.u32.wrap (o : Int) = o := u32_id (by omega)
  have e3 : IntKind.u32.wrap ((a : Int) + 4) = (a + 4 : Nat) := by rw [had]; simp [IntKind.wrap, IntKind.bits, IntKind.signed]; omega
  clear had
  go_enter Try.func3, Try.ntmps3
  go_wp2_with fail
  refine (fit_ok w).mono ?_
  rintro e w1 ⟨rfl, hB1⟩
  go_wp2_with fail
  refine (new_ok w1).mono ?_
  rintro e w2 ⟨rfl, hw2⟩
  have r2 : w2.row? w1.heap.size = some (mem fun _ => 0) := by rw [hw2]; exact new_row w1
  have C2 : Chg [w1.heap.size] w1 w2 := by rw [hw2]; exact (Chg.refl _ _).alloc _
  clear hw2
  go_wp2_with fail
  refine (store_ok _ a o 4 _ x HA.out (by simp) (by omega) hx w2 r2).mono ?_
  rintro e w3 ⟨rfl, r3, C3⟩
  replace C3 := C2.trans C3
  clear C2 r2
  go_wp2_with fail
  refine (store_ok _ (a + 4) (o + 4) 4 _ y (by have := HA.out; omega) (by simp) (by omega) hy w3 r3).mono ?_
  rintro e w4 ⟨rfl, r4, C4⟩
  replace C4 := C3.trans C4
  clear C3 r3
  change w4.row? w1.heap.size = some (mem (F8 o x y)) at r4
  have u1 : IntKind.u64.wrap (x : Int) = x := u64_id (by omega) (by omega)
  have u2 : IntKind.u64.wrap (y : Int) = y := u64_id (by omega) (by omega)
  have u3 : IntKind.u64.wrap ((y : Int) * 4294967296) = (y : Int) * 4294967296 := u64_id (by omega) (by omega)
  obtain ⟨X, hX⟩ : ∃ X : Nat, X = x + y * 4294967296 := ⟨_, rfl⟩
  have u4 : bits .or .u64 (x : Int) ((y : Int) * 4294967296) = (X : Int) := by rw [hX]; exact or64 x y 32 (by omega) (by omega)
  have HX : Hid (X = x + y * 4294967296) := hX
  clear hX
  go_wp2
  go_loopw [37] (fun i wr => ∃ k : Nat, k ≤ 8 ∧ i = .int .u32 k ∧ wr.row? w1.heap.size = some (mem (F8 o x y)) ∧ Chg [w1.heap.size] w1 wr) (fun i _ => 8 - (intOf i).toNat)
  case atStart => exact ⟨0, by omega, rfl, r4, C4⟩
  case round =>
    obtain ⟨k, hk, rfl, r5, C5⟩ := hrel
    clear r4 C4
    by_cases hlt : k < 8
    · go_wp2
      obtain ⟨W5, hW5⟩ : ∃ W5, W5 = wr.alloc (.cells #[.int .i64 1, .int .i64 2, .int .i64 4] 3) := ⟨_, rfl⟩
      rw [← hW5]
      have hd : decide ((k : Int) < 8) = true := by rw [decide_eq_true_eq]; omega
      simp only [hd]
      have r6 : W5.row? w1.heap.size = some (mem (F8 o x y)) := by rw [hW5, row_alloc_past _ _ _ (lt_of_row r5), r5]
      have C6 : Chg [w1.heap.size] w1 W5 := by rw [hW5]; exact C5.alloc _
      have c0 : W5.cell? ⟨wr.heap.size, 0, none⟩ = some (.int .i64 1) := by rw [hW5]; go_simp
      have c1 : W5.cell? ⟨wr.heap.size, 1, none⟩ = some (.int .i64 2) := by rw [hW5]; go_simp
      have c2 : W5.cell? ⟨wr.heap.size, 2, none⟩ = some (.int .i64 4) := by rw [hW5]; go_simp
      clear hW5 r5 C5
      have e5 : IntKind.u32.wrap ((a : Int) + k) = (a + k : Nat) := by rw [show (a : Int) + k = (a + k : Nat) from by omega]; have := HA.out; exact u32_id (by omega)
      have e6 : IntKind.i64.wrap (k : Int) = k := IntWalk.i64_in _ (by omega)
      go_loopw [42] (fun j wv => ∃ m : Nat, m ≤ 3 ∧ j = .int .i64 m ∧ wv = W5) (fun j _ => 3 - (intOf j).toNat)
      case atStart => exact ⟨0, by omega, rfl, rfl⟩
      case round =>
        obtain ⟨m, hm, rfl, rfl⟩ := hrel
        obtain rfl | rfl | rfl | rfl : m = 0 ∨ m = 1 ∨ m = 2 ∨ m = 3 := by omega
        · by_cases hc : k + 1 ≤ 8
          · go_wp2_with fail
            refine (load_ok (F8 o x y) (F8_lt o x y) (a + k) (o + k) 1 _ (by have := HA.out; omega) (by simp) (by omega) _ r6).mono ?_
            rintro e w7 ⟨rfl, rfl⟩
            have v0 : leN (F8 o x y) (o + k) 1 < 2 ^ (8 * 1) := leN_lt _ (F8_lt o x y) _ _
            have v1 : IntKind.u64.wrap (leN (F8 o x y) (o + k) 1 : Int) = (leN (F8 o x y) (o + k) 1 : Int) := u64_id (by omega) (by omega)
            have v2 : bits .and .u64 ((X : Int) / 2 ^ (8 * k)) 255 = (leN (F8 o x y) (o + k) 1 : Int) := vAnd o x y X k 1 hx hy HX.out (by omega) 255 rfl (by decide)
            have v3 : IntKind.u32.wrap (8 * (k : Int)) = 8 * (k : Int) := by rw [show 8 * (k : Int) = ((8 * k : Nat) : Int) from by omega]; exact u32_id (by omega)
            have v4 : (8 * (k : Int)).toNat = 8 * k := by omega
            have v5 : (0 : Int) ≤ 8 * (k : Int) := by omega
            have v6 : IntKind.i64.wrap ((k : Int) + 1) = (k : Int) + 1 := IntWalk.i64_in _ (by omega)
            clear v0
            go_wp2
            go_roundw
            case rel => exact ⟨1, by omega, rfl, trivial⟩
            case measure => simp [intOf]
          · exact absurd hlt (by omega)
        · by_cases hc : k + 2 ≤ 8
          · go_wp2_with fail
            refine (load_ok (F8 o x y) (F8_lt o x y) (a + k) (o + k) 2 _ (by have := HA.out; omega) (by simp) (by omega) _ r6).mono ?_
            rintro e w7 ⟨rfl, rfl⟩
            have v0 : leN (F8 o x y) (o + k) 2 < 2 ^ (8 * 2) := leN_lt _ (F8_lt o x y) _ _
            have v1 : IntKind.u64.wrap (leN (F8 o x y) (o + k) 2 : Int) = (leN (F8 o x y) (o + k) 2 : Int) := u64_id (by omega) (by omega)
            have v2 : bits .and .u64 ((X : Int) / 2 ^ (8 * k)) 65535 = (leN (F8 o x y) (o + k) 2 : Int) := vAnd o x y X k 2 hx hy HX.out (by omega) 65535 rfl (by decide)
            have v3 : IntKind.u32.wrap (8 * (k : Int)) = 8 * (k : Int) := by rw [show 8 * (k : Int) = ((8 * k : Nat) : Int) from by omega]; exact u32_id (by omega)
            have v4 : (8 * (k : Int)).toNat = 8 * k := by omega
            have v5 : (0 : Int) ≤ 8 * (k : Int) := by omega
            have v6 : IntKind.i64.wrap ((k : Int) + 2) = (k : Int) + 2 := IntWalk.i64_in _ (by omega)
            clear v0
            go_wp2
            go_roundw
            case rel => exact ⟨2, by omega, rfl, trivial⟩
            case measure => simp [intOf]
          · go_wp2_with fail
            refine (load_any (F8 o x y) (F8_lt o x y) (a + k) 2 _ (by have := HA.out; omega) (by simp) _ r6).mono ?_
            rintro e w7 ⟨⟨v, c, rfl⟩, rfl⟩
            have v6 : IntKind.i64.wrap ((k : Int) + 2) = (k : Int) + 2 := IntWalk.i64_in _ (by omega)
            go_wp2
            go_roundw
            case rel => exact ⟨2, by omega, rfl, trivial⟩
            case measure => simp [intOf]
        · by_cases hc : k + 4 ≤ 8
          · go_wp2_with fail
            refine (load_ok (F8 o x y) (F8_lt o x y) (a + k) (o + k) 4 _ (by have := HA.out; omega) (by simp) (by omega) _ r6).mono ?_
            rintro e w7 ⟨rfl, rfl⟩
            have v0 : leN (F8 o x y) (o + k) 4 < 2 ^ (8 * 4) := leN_lt _ (F8_lt o x y) _ _
            have v1 : IntKind.u64.wrap (leN (F8 o x y) (o + k) 4 : Int) = (leN (F8 o x y) (o + k) 4 : Int) := u64_id (by omega) (by omega)
            have v2 : bits .and .u64 ((X : Int) / 2 ^ (8 * k)) 4294967295 = (leN (F8 o x y) (o + k) 4 : Int) := vAnd o x y X k 4 hx hy HX.out (by omega) 4294967295 rfl (by decide)
            have v3 : IntKind.u32.wrap (8 * (k : Int)) = 8 * (k : Int) := by rw [show 8 * (k : Int) = ((8 * k : Nat) : Int) from by omega]; exact u32_id (by omega)
            have v4 : (8 * (k : Int)).toNat = 8 * k := by omega
            have v5 : (0 : Int) ≤ 8 * (k : Int) := by omega
            have v6 : IntKind.i64.wrap ((k : Int) + 4) = (k : Int) + 4 := IntWalk.i64_in _ (by omega)
            clear v0
            go_wp2
            go_roundw
            case rel => exact ⟨3, by omega, rfl, trivial⟩
            case measure => simp [intOf]
          · go_wp2_with fail
            refine (load_any (F8 o x y) (F8_lt o x y) (a + k) 4 _ (by have := HA.out; omega) (by simp) _ r6).mono ?_
            rintro e w7 ⟨⟨v, c, rfl⟩, rfl⟩
            have v6 : IntKind.i64.wrap ((k : Int) + 4) = (k : Int) + 4 := IntWalk.i64_in _ (by omega)
            go_wp2
            go_roundw
            case rel => exact ⟨3, by omega, rfl, trivial⟩
            case measure => simp [intOf]
        · go_wp2
          go_roundw
          case rel => exact ⟨k + 1, by omega, by go_num, r6, C6⟩
          case measure => simp [intOf]; omega
    · obtain rfl : k = 8 := by omega
      have e7 : IntKind.u32.wrap ((a : Int) + 3) = (a + 3 : Nat) := by rw [show (a : Int) + 3 = (a + 3 : Nat) from by omega]; have := HA.out; exact u32_id (by omega)
      have e8 : IntKind.u32.wrap ((a : Int) + 2) = (a + 2 : Nat) := by rw [show (a : Int) + 2 = (a + 2 : Nat) from by omega]; have := HA.out; exact u32_id (by omega)
      go_wp2_with fail
      refine (store_ok _ (a + 3) (o + 3) 2 _ 43981 (by have := HA.out; omega) (by simp) (by omega) (by decide) _ r5).mono ?_
      rintro e w9 ⟨rfl, r9, C9⟩
      replace C9 := C5.trans C9
      clear C5 r5
      go_wp2_with fail
      refine (load_ok _ (fun i => stN_lt _ (F8_lt o x y) _ _ _ i) (a + 2) (o + 2) 4 _ (by have := HA.out; omega) (by simp) (by omega) _ r9).mono ?_
      rintro e w10 ⟨rfl, rfl⟩
      have z := words_end o x y hx hy
      clear e1 e0 e2 e3 e7 e8 u1 u2 u3 u4
      go_wp2
      go_ret
      refine ⟨by rw [← z]; rfl, ?_⟩
      exact hB1.trans ((C9.below (by simp) (Nat.le_refl _)).mono hB1.size)
end Go.Proofs.L
