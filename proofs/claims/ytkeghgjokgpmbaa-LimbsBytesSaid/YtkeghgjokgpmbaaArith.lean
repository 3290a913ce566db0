/- Proved here: lemmas and contracts (Arith) for the laws of this seat, for all values of the stated types; no further condition. -/
import Derived.Test.YtkeghgjokgpmbaaBase
import Derived.Test.YtkeghgjokgpmbaaEq
open Go Go.RowKit
namespace Go.Proofs.L
attribute [local go_sem ↓] z23 z24 z27 ld23 st23 ld24 st24 ld27 st27
attribute [local go_sem] num_size num_all bts_size bts_all
set_option maxHeartbeats 800000 in
theorem add_any (a b : Nat) (w : World) :
    Calls Try.prog 9 #[.agg (num a), .agg (num b)] w fun e w' => e = .returned (.tuple #[.agg (num (a + b)), .int .u32 (C a b 8)]) ∧ Below w.heap.size w w' := by
  go_enter Try.func9, Try.ntmps9
  go_wp2
  go_loopw [6, 8] (fun c i wr => ∃ k : Nat, k ≤ 8 ∧ i = .int .i64 k ∧ c = .int .u64 (C a b k) ∧ wr.row? w.heap.size = some (cellsK .u32 (mix k (a + b) a)) ∧ wr.row? (w.heap.size+1) = some (num b) ∧ wr.row? (w.heap.size + 1 + 1) = some (num 0) ∧ Below w.heap.size w wr) (fun _ i _ => 8 - (intOf i).toNat)
  case atStart =>
    refine ⟨0, by omega, rfl, by rw [C_zero]; rfl, by go_simp; rw [mix_zero]; rfl, by go_simp, by go_simp, ?_⟩
    exact (((Below.refl _ _).alloc (Nat.le_refl _) _).alloc (by simp) _).alloc (by simp; omega) _
  case round =>
    obtain ⟨k, hk, rfl, rfl, h1, h2, h3, hB⟩ := hrel
    by_cases hlt : k < 8
    · have c1 := mix_row h1 hlt
      have c2 := num_row h2 k hlt
      have f1 := row_free h1 k
      have b1 := D_lt a k
      have b2 := D_lt b k
      have b3 := C_le a b k
      have e1 := D_add a b k
      have e2 := C_succ a b k
      have ms := mix_set k (a + b) a hlt
      have H : Hid (D (a + b) k = (D a k + D b k + C a b k) % 4294967296 ∧ C a b (k + 1) = (D a k + D b k + C a b k) / 4294967296 ∧ (mix k (a+b) a).set k (D (a+b) k : Int) = mix (k+1) (a+b) a) := ⟨e1, e2, ms⟩
      clear e1 e2 ms
      go_wp2
      go_quiet (fail)
      go_wp2
      go_roundw
      case rel =>
        obtain ⟨e1, e2, e3⟩ := H.out
        refine ⟨k + 1, by omega, by go_num, ?_, ?_, ?_, ?_, ?_⟩
        · rw [e2]; congr 1; omega
        · go_simp
          rw [cellsK_set, ← e3, e1]; congr 2; omega
        · go_simp
        · go_simp
        · exact (below_drewN' hB _).setCell (Nat.le_refl _) _
      case measure => simp [intOf]; omega
    · have : k = 8 := by omega
      subst this
      have b3 := C_le a b 8
      rw [mix_full] at h1
      have h1' : wr.row? w.heap.size = some (num (a + b)) := h1
      clear h1
      go_wp2
      exact bodyPost_ret (ret_cell2 rfl a24 rfl (by go_simp) (num_size _) rfl) rfl ⟨rfl, below_setRow' hB (by omega) _⟩
theorem wrap64u (x y z : Int) (hx : 0 ≤ x ∧ x < 4294967296) (hy : 0 ≤ y ∧ y < 4294967296) (hz : 0 ≤ z ∧ z ≤ 1) :
    IntKind.u64.wrap (IntKind.u64.wrap (x - y) - z) % 4294967296 = (x - y - z) % 4294967296 ∧ IntKind.u64.wrap (IntKind.u64.wrap (x - y) - z) / 9223372036854775808 = if x < y + z then 1 else 0 := by
  have e : ∀ n : Int, IntKind.u64.wrap n = n % 18446744073709551616 := fun n => by simp [IntKind.wrap, IntKind.bits, IntKind.signed]
  rw [e, e]
  constructor
  · omega
  · split <;> omega
def cmpR (a b : Nat) : Int := if a < b then -1 else if b < a then 1 else 0
set_option maxHeartbeats 800000 in
theorem sub_any (a b : Nat) (ha : a < 2^256) (hb : b < 2^256) (w : World) :
    Calls Try.prog 11 #[.agg (num a), .agg (num b)] w fun e w' => e = .returned (.tuple #[.agg (num ((a + (2^256 - b)) % 2^256)), .int .u32 (Bw a b 8)]) ∧ Below w.heap.size w w' := by
  have HD : Hid (∀ k, k < 8 → (D ((a + (2 ^ 256 - b)) % 2 ^ 256) k : Int) = ((D a k : Int) - D b k - Bw a b k) % 4294967296) := fun k hk => D_sub a b k ha hb hk
  clear ha hb
  generalize (a + (2 ^ 256 - b)) % 2 ^ 256 = s at *
  go_enter Try.func11, Try.ntmps11
  go_wp2
  go_loopw [6, 8] (fun c i wr => ∃ k : Nat, k ≤ 8 ∧ i = .int .i64 k ∧ c = .int .u64 (Bw a b k) ∧ wr.row? w.heap.size = some (cellsK .u32 (mix k s a)) ∧ wr.row? (w.heap.size+1) = some (num b) ∧ wr.row? (w.heap.size + 1 + 1) = some (num 0) ∧ Below w.heap.size w wr) (fun _ i _ => 8 - (intOf i).toNat)
  case atStart =>
    refine ⟨0, by omega, rfl, by rw [Bw_zero]; rfl, by go_simp; rw [mix_zero]; rfl, by go_simp, by go_simp, ?_⟩
    exact (((Below.refl _ _).alloc (Nat.le_refl _) _).alloc (by simp) _).alloc (by simp; omega) _
  case round =>
    obtain ⟨k, hk, rfl, rfl, h1, h2, h3, hB⟩ := hrel
    by_cases hlt : k < 8
    · have c1 := mix_row h1 hlt
      have c2 := num_row h2 k hlt
      have f1 := row_free h1 k
      have b1 := D_lt a k
      have b2 := D_lt b k
      have b3 := Bw_le a b k
      have H : Hid (Bw a b (k + 1) = _ ∧ (mix k s a).set k (D s k : Int) = mix (k+1) s a) := ⟨Bw_succ a b k, mix_set k s a hlt⟩
      go_wp2
      go_quiet (fail)
      go_wp2
      go_roundw
      case rel =>
        obtain ⟨e2, e3⟩ := H.out
        have e1 := HD.out k hlt
        obtain ⟨q1, q2⟩ := wrap64u (D a k) (D b k) (Bw a b k) (by omega) (by omega) (by omega)
        refine ⟨k + 1, by omega, by go_num, ?_, ?_, ?_, ?_, ?_⟩
        · rw [e2, q2]; congr 1; split <;> split <;> omega
        · go_simp
          rw [cellsK_set, ← e3, e1]
        · go_simp
        · go_simp
        · exact (below_drewN' hB _).setCell (Nat.le_refl _) _
      case measure => simp [intOf]; omega
    · have : k = 8 := by omega
      subst this
      have b3 := Bw_le a b 8
      rw [mix_full] at h1
      have h1' : wr.row? w.heap.size = some (num s) := h1
      clear h1
      go_wp2
      exact bodyPost_ret (ret_cell2 rfl a24 rfl (by go_simp) (num_size _) rfl) rfl ⟨rfl, below_setRow' hB (by omega) _⟩
set_option maxHeartbeats 800000 in
theorem cmp_any (a b : Nat) (ha : a < 2^256) (hb : b < 2^256) (w : World) :
    Calls Try.prog 15 #[.agg (num a), .agg (num b)] w fun e w' => e = .returned (.int .i64 (cmpR a b)) ∧ Below w.heap.size w w' := by
  have HA : Hid (a < 2^256 ∧ b < 2^256) := ⟨ha, hb⟩
  clear ha hb
  go_enter Try.func15, Try.ntmps15
  go_wp2
  go_loopw [5] (fun i wr => ∃ k : Nat, k ≤ 8 ∧ i = .int .i64 (k - 1) ∧ (∀ j, k ≤ j → j < 8 → D a j = D b j) ∧ wr.row? w.heap.size = some (num a) ∧ wr.row? (w.heap.size+1) = some (num b) ∧ Below w.heap.size w wr) (fun i _ => (intOf i + 1).toNat)
  case atStart =>
    refine ⟨8, by omega, rfl, fun j h1 h2 => by omega, by go_simp, by go_simp, ?_⟩
    exact ((Below.refl _ _).alloc (Nat.le_refl _) _).alloc (by simp) _
  case round =>
    obtain ⟨k, hk, rfl, hj, h1, h2, hB⟩ := hrel
    have HJ : Hid _ := hj
    clear hj
    rcases k with _ | k
    · go_wp2
      go_ret
      have := eq_of_digs HA.out.1 HA.out.2 HJ.out
      exact ⟨by simp [cmpR, this], hB⟩
    · have c1 := num_row h1 k (by omega)
      have c2 := num_row h2 k (by omega)
      have e : ((k + 1 : Nat) : Int) - 1 = k := by omega
      rw [e]
      clear e
      go_wp2
      go_quiet (fail)
      go_wp2
      · go_ret
        have := cmp_lt HA.out.1 HA.out.2 k (by omega) HJ.out (by omega)
        exact ⟨by simp [cmpR, this], below_drewN' hB _⟩
      all_goals go_quiet (fail)
      all_goals go_wp2
      · go_ret
        have := cmp_lt HA.out.2 HA.out.1 k (by omega) (fun j h1 h2 => (HJ.out j h1 h2).symm) (by omega)
        exact ⟨by rw [show cmpR a b = 1 from by rw [cmpR, if_neg (by omega), if_pos this]]; rfl, below_drewN' (below_drewN' hB _) _⟩
      · go_roundw
        case rel =>
          refine ⟨k, by omega, rfl, ?_, by go_simp, by go_simp, below_drewN' hB _⟩
          intro j hj1 hj2
          by_cases hjk : j = k
          · subst hjk; omega
          · exact HJ.out j (by omega) hj2
        case measure => simp [intOf]
theorem dig_eq_zero {a : Nat} (ha : a < 2^256) : (dig a = dig 0) ↔ a = 0 := ⟨fun h => dig_inj ha (by decide) h, fun h => by rw [h]⟩
theorem eq24 (w : World) (a b : Nat) (ha : a < 2^256) (hb : b < 2^256) : (Op.equalIn 10000 24 (.agg (num a)) (.agg (num b))).run Try.prog w = .ok (decide (a = b)) w := by
  rw [num, num, run_equalIn_ints (P := Try.prog) w 9998 24 22 8 .u32 _ _ (by kernel_rfl) (by kernel_rfl) (by kernel_rfl) (dig_len _) (dig_len _)]
  congr 1
  by_cases h : a = b
  · subst h; simp
  · have : dig a ≠ dig b := fun he => h (dig_inj ha hb he)
    simp [h, this]
theorem zero_any (a : Nat) (ha : a < 2^256) (w : World) :
    Calls Try.prog 16 #[.agg (num a)] w fun e w' => e = .returned (.bool (decide (a = 0))) ∧ Below w.heap.size w w' := by
  have he := fun w => eq24 w a 0 ha (by decide)
  clear ha
  go_enter Try.func16, Try.ntmps16
  go_wp2
  go_ret
  exact ⟨rfl, (Below.refl _ _).alloc (Nat.le_refl _) _⟩
theorem num_get (a i : Nat) (h : i < 8) : (num a)[i]? = some (.int .u32 (D a i : Int)) := by
  rw [num, cellsK_get _ _ _ (by rw [dig_len]; exact h), at', dig_get _ _ h]
theorem and_one (x : Nat) (hx : x < 4294967296) : bits .and .u32 (x : Int) 1 = ((x % 2 : Nat) : Int) := by
  show IntKind.u32.wrap ((BitVec.ofInt 32 (x : Int) &&& BitVec.ofInt 32 1).toNat : Int) = _
  have h1 : (BitVec.ofInt 32 (x : Int)).toNat = x := by rw [BitVec.ofInt_natCast, BitVec.toNat_ofNat]; exact Nat.mod_eq_of_lt hx
  have h2 : (BitVec.ofInt 32 1).toNat = 1 := rfl
  rw [BitVec.toNat_and, h1, h2, Nat.and_one_is_mod]
  simp [IntKind.wrap, IntKind.bits, IntKind.signed]; omega
theorem bit_D (a n : Nat) : D a (n / 32) / 2 ^ (n % 32) % 2 = Bt.D a n := by
  unfold D Bt.D
  have e : a / 2 ^ (32 * (n / 32)) % 4294967296 / 2 ^ (n % 32) % 2 = a / 2 ^ (32 * (n / 32)) / 2 ^ (n % 32) % 2 := by
    generalize a / 2 ^ (32 * (n / 32)) = x
    have h : n % 32 < 32 := Nat.mod_lt _ (by decide)
    have e : (4294967296 : Nat) = 2 ^ (n % 32) * 2 ^ (32 - n % 32) := by rw [← Nat.pow_add, show n % 32 + (32 - n % 32) = 32 from by omega]
    rw [e, Nat.mod_mul_right_div_self, Nat.mod_mod_of_dvd]
    have : (2:Nat) ^ 1 ∣ 2 ^ (32 - n % 32) := Nat.pow_dvd_pow 2 (by omega)
    simpa using this
  rw [e, Nat.div_div_eq_div_mul, ← Nat.pow_add, show 32 * (n / 32) + n % 32 = 1 * n from by omega]
theorem bit_at (a n : Nat) : bits .and .u32 ((D a (n / 32) : Int) / 2 ^ (n % 32)) 1 = (Bt.D a n : Int) := by
  have h := D_lt a (n / 32)
  have e : ((D a (n / 32) : Int) / 2 ^ (n % 32)) = ((D a (n / 32) / 2 ^ (n % 32) : Nat) : Int) := by
    rw [Int.natCast_ediv, Int.natCast_pow]; rfl
  rw [e, and_one _ (Nat.lt_of_le_of_lt (Nat.div_le_self _ _) h), bit_D]
theorem bit_any (a : Nat) (n : Nat) (h1 : n ≤ 255) (w : World) :
    Calls Try.prog 19 #[.agg (num a), .int .i64 n] w fun e w' => e = .returned (.int .u32 (Bt.D a n)) ∧ Below w.heap.size w w' := by
  have g := num_get a (n / 32) (by omega)
  have h0 := D_lt a (n / 32)
  go_enter Try.func19, Try.ntmps19
  go_wp2
  go_ret
  refine ⟨?_, (Below.refl _ _).alloc (Nat.le_refl _) _⟩
  rw [bit_at]; rfl
theorem bit_out (a : Nat) (i : Int) (h1 : i < 0 ∨ 255 < i) (w : World) :
    Calls Try.prog 19 #[.agg (num a), .int .i64 i] w fun e w' => e = .returned (.int .u32 0) ∧ Below w.heap.size w w' := by
  go_enter Try.func19, Try.ntmps19
  go_wp2
  all_goals go_ret
  all_goals exact ⟨rfl, (Below.refl _ _).alloc (Nat.le_refl _) _⟩
theorem wrap64_id (x : Int) (h : 0 ≤ x ∧ x < 9223372036854775808) : wrap64 x = x := IntWalk.wrap64_in x ⟨by omega, by omega⟩
theorem bit_at64 (a n : Nat) : bits .and .i64 (wrap64 ((D a (n / 32) : Int) / 2 ^ (n % 32))) 1 = (Bt.D a n : Int) := by
  have h := D_lt a (n / 32)
  have e : ((D a (n / 32) : Int) / 2 ^ (n % 32)) = ((D a (n / 32) / 2 ^ (n % 32) : Nat) : Int) := by
    rw [Int.natCast_ediv, Int.natCast_pow]; rfl
  have hx : D a (n / 32) / 2 ^ (n % 32) < 4294967296 := Nat.lt_of_le_of_lt (Nat.div_le_self _ _) h
  have hb := bit_D a n
  rw [e]
  generalize D a (n / 32) / 2 ^ (n % 32) = x at *
  rw [wrap64_id _ (by omega), ← hb]
  show IntKind.i64.wrap ((BitVec.ofInt 64 (x : Int) &&& BitVec.ofInt 64 1).toNat : Int) = _
  have h1 : (BitVec.ofInt 64 (x : Int)).toNat = x := by rw [BitVec.ofInt_natCast, BitVec.toNat_ofNat]; exact Nat.mod_eq_of_lt (by omega)
  have h2 : (BitVec.ofInt 64 1).toNat = 1 := rfl
  rw [BitVec.toNat_and, h1, h2, Nat.and_one_is_mod]
  simp [IntKind.wrap, IntKind.bits, IntKind.signed]; omega
set_option maxRecDepth 100000 in
set_option maxHeartbeats 800000 in
theorem of_any (a : Nat) (w : World) :
    Calls Try.prog 8 #[.agg (num a)] w fun e w' => e = .returned (.agg (bts a)) ∧ Below w.heap.size w w' := by
  go_enter Try.func8, Try.ntmps8
  go_wp2
  go_loopw [4] (fun i wr => ∃ k : Nat, k ≤ 256 ∧ i = .int .i64 k ∧ wr.row? w.heap.size = some (num a) ∧ wr.row? (w.heap.size+1) = some (bts 0) ∧ wr.row? (w.heap.size + 1 + 1) = some (cellsK .i64 (Bt.mix k a 0)) ∧ Below w.heap.size w wr) (fun i _ => 256 - (intOf i).toNat)
  case atStart =>
    refine ⟨0, by omega, rfl, by go_simp, by go_simp, by go_simp; rw [Bt.mix_zero]; rfl, ?_⟩
    exact (((Below.refl _ _).alloc (Nat.le_refl _) _).alloc (by simp) _).alloc (by simp; omega) _
  case round =>
    obtain ⟨k, hk, rfl, h1, h2, h3, hB⟩ := hrel
    by_cases hlt : k < 256
    · have c1 := num_row h1 (k / 32) (by omega)
      have c2 := bmix_row h3 hlt
      have f2 := row_free h3 k
      have b1 := D_lt a (k / 32)
      have H : Hid ((Bt.mix k a 0).set k (Bt.D a k : Int) = Bt.mix (k+1) a 0) := Bt.mix_set k a 0 hlt
      go_wp2
      go_roundw
      case rel =>
        have e3 := H.out
        refine ⟨k + 1, by omega, by go_num, ?_, ?_, ?_, ?_⟩
        · go_simp
        · go_simp
        · go_simp
          rw [bit_at64, cellsK_set, e3]
        · exact hB.setCell (by show _ ≤ w.heap.size + 1 + 1; omega) _
      case measure => simp [intOf]; omega
    · have : k = 256 := by omega
      subst this
      rw [Bt.mix_full] at h3
      have h1' : wr.row? (w.heap.size+1+1) = some (bts a) := h3
      clear h3
      go_wp2
      exact bodyPost_ret (ret_cell1 rfl a27 rfl (by go_simp) (bts_size _)) rfl ⟨rfl, below_setRow' hB (by omega) _⟩
end Go.Proofs.L
