/- Proved here: lemmas and contracts (BitArith) for the laws of this seat, for all values of the stated types; no further condition. -/
import Derived.Test.YtkeghgjokgpmbaaArith
import Derived.Lib.Hide
import Derived.StillTailTactics
open Go Go.RowKit
namespace Go.Proofs.L
attribute [local go_sem ↓] z23 z24 z27 ld23 st23 ld24 st24 ld27 st27
attribute [local go_sem] num_size num_all bts_size bts_all
theorem Bt_not (a : Nat) (ha : a < 2^256) : ∀ k, k < 256 → (Bt.D (2^256 - 1 - a) k : Int) = 1 - Bt.D a k := by
  intro k hk
  have e1 : (2^256 - 1 - a).testBit k = !a.testBit k := by
    rw [Nat.sub_sub, Nat.add_comm 1 a, Nat.testBit_two_pow_sub_succ ha]; simp [hk]
  have key : ∀ x, (Bt.D x k : Int) = (x.testBit k).toNat := by
    intro x
    rw [Nat.testBit_eq_decide_div_mod_eq]
    unfold Bt.D
    rw [Nat.one_mul]
    have := Nat.mod_lt (x / 2^k) (show 2 > 0 by decide)
    by_cases h : x / 2^k % 2 = 1
    · simp [h]
    · have h0 : x / 2 ^ k % 2 = 0 := by omega
      simp [h0]
  rw [key, key, e1]
  cases a.testBit k <;> rfl
theorem D_small {x j : Nat} (h : x < 2 ^ (32 * j)) : D x j = 0 := by
  unfold D; rw [Nat.div_eq_of_lt h]
theorem num_acc (a k : Nat) (hk : k < 256) : (num (a % 2 ^ k)).setIfInBounds (k / 32) (.int .u32 (((D (a % 2 ^ k) (k / 32) : Int) + Bt.D a k * 2 ^ (k % 32)) % 4294967296)) = num (a % 2 ^ (k + 1)) := by
  have hx : a % 2 ^ k < 2 ^ k := Nat.mod_lt _ (Nat.pow_pos (by decide))
  have hb : Bt.D a k ≤ 1 := by have := Bt.D_lt a k; omega
  have hs : a % 2 ^ (k + 1) = a % 2 ^ k + 2 ^ k * Bt.D a k := by
    have := Bt.mod_step a k; rwa [Nat.one_mul, Nat.one_mul] at this
  rw [hs]
  generalize a % 2 ^ k = x at *
  generalize Bt.D a k = b at *
  have hp : 2 ^ k = 2 ^ (32 * (k / 32)) * 2 ^ (k % 32) := by rw [← Nat.pow_add, Nat.div_add_mod]
  have hr : k % 32 < 32 := Nat.mod_lt _ (by decide)
  have hq : 0 < 2 ^ (32 * (k / 32)) := Nat.pow_pos (by decide)
  have hxd : x / 2 ^ (32 * (k / 32)) < 2 ^ (k % 32) := by rw [Nat.div_lt_iff_lt_mul hq, Nat.mul_comm, ← hp]; exact hx
  have h32 : 2 ^ (k % 32) * 2 ≤ 4294967296 := by
    rw [← Nat.pow_succ]; exact Nat.pow_le_pow_right (by decide) (show k % 32 + 1 ≤ 32 by omega)
  have key : ∀ j, j < 8 → D (x + 2 ^ k * b) j = if j = k / 32 then (D x j + b * 2 ^ (k % 32)) % 4294967296 else D x j := by
    intro j hj
    split
    · rename_i h
      subst h
      unfold D
      rw [hp, Nat.mul_assoc, Nat.add_mul_div_left _ _ hq, Nat.mul_comm b]
      omega
    · rename_i h
      rcases Nat.lt_or_gt_of_ne h with h | h
      · unfold D
        have e : 2 ^ k = 2 ^ (32 * j) * (4294967296 * 2 ^ (k - 32 * j - 32)) := by
          rw [show (4294967296 : Nat) = 2 ^ 32 from rfl, ← Nat.pow_add, ← Nat.pow_add]; congr 1; omega
        rw [e, Nat.mul_assoc, Nat.add_mul_div_left _ _ (Nat.pow_pos (by decide)), Nat.mul_assoc, Nat.add_mul_mod_self_left]
      · have hle : 2 ^ (k + 1) ≤ 2 ^ (32 * j) := Nat.pow_le_pow_right (by decide) (by omega)
        rw [Nat.pow_succ] at hle
        have hbm : 2 ^ k * b ≤ 2 ^ k * 1 := Nat.mul_le_mul_left _ hb
        rw [D_small (by omega), D_small (by omega)]
  have ecast : (((D x (k / 32) : Int) + (b : Int) * 2 ^ (k % 32)) % 4294967296) = (((D x (k/32) + b * 2 ^ (k % 32)) % 4294967296 : Nat) : Int) := by
    rw [Int.natCast_emod, Int.natCast_add, Int.natCast_mul, Int.natCast_pow]; rfl
  rw [ecast, num, cellsK_set, num]
  congr 1
  apply List.ext_getElem
  · simp [dig]
  · intro i h1 h2
    simp only [dig, List.length_map, List.length_range] at h2
    rw [List.getElem_set]
    simp only [dig, List.getElem_map, List.getElem_range, key i h2]
    by_cases h : k / 32 = i
    · rw [if_pos h, if_pos h.symm, h]
    · rw [if_neg h, if_neg (fun e => h e.symm)]
theorem Bt_D_le (n k : Nat) : Bt.D n k ≤ 1 := by have := Bt.D_lt n k; omega
set_option maxRecDepth 100000 in
set_option maxHeartbeats 800000 in
theorem badd_any (a b : Nat) (w : World) :
    Calls Try.prog 10 #[.agg (bts a), .agg (bts b)] w fun e w' => e = .returned (.tuple #[.agg (bts (a + b)), .int .i64 (Bt.C a b 256)]) ∧ Below w.heap.size w w' := by
  go_enter Try.func10, Try.ntmps10
  go_wp2
  go_loopw [7, 8] (fun c i wr => ∃ k : Nat, k ≤ 256 ∧ i = .int .i64 k ∧ c = .int .i64 (Bt.C a b k) ∧ wr.row? w.heap.size = some (bts a) ∧ wr.row? (w.heap.size+1) = some (bts b) ∧ wr.row? (w.heap.size + 1 + 1) = some (bts 0) ∧ wr.row? (w.heap.size + 1 + 1 + 1) = some (cellsK .i64 (Bt.mix k (a + b) 0)) ∧ Below w.heap.size w wr) (fun _ i _ => 256 - (intOf i).toNat)
  case atStart =>
    refine ⟨0, by omega, rfl, by rw [Bt.C_zero]; rfl, by go_simp, by go_simp, by go_simp, by go_simp; rw [Bt.mix_zero]; rfl, ?_⟩
    exact ((((Below.refl _ _).alloc (Nat.le_refl _) _).alloc (by simp) _).alloc (by simp; omega) _).alloc (by simp; omega) _
  case round =>
    obtain ⟨k, hk, rfl, rfl, h1, h2, h3, h4, hB⟩ := hrel
    by_cases hlt : k < 256
    · have c1 := bts_row h1 k hlt
      have c2 := bts_row h2 k hlt
      have c4 := bmix_row h4 hlt
      have f4 := row_free h4 k
      have b1 := Bt_D_le a k
      have b2 := Bt_D_le b k
      have b3 := Bt.C_le a b k
      have H : Hid (Bt.D (a + b) k = (Bt.D a k + Bt.D b k + Bt.C a b k) % 2 ∧ Bt.C a b (k + 1) = (Bt.D a k + Bt.D b k + Bt.C a b k) / 2 ∧ (Bt.mix k (a+b) 0).set k (Bt.D (a+b) k : Int) = Bt.mix (k+1) (a+b) 0) := ⟨Bt.D_add a b k, Bt.C_succ a b k, Bt.mix_set k _ _ hlt⟩
      go_wp2
      go_quiet (fail)
      go_wp2
      go_roundw
      case rel =>
        obtain ⟨e1, e2, e3⟩ := H.out
        refine ⟨k + 1, by omega, by go_num, ?_, ?_, ?_, ?_, ?_, ?_⟩
        · rw [e2]; congr 1
        · go_simp
        · go_simp
        · go_simp
        · go_simp
          rw [cellsK_set, ← e3, e1]; congr 2
        · exact (below_drewN' hB _).setCell (by show _ ≤ w.heap.size + 1 + 1 + 1; omega) _
      case measure => simp [intOf]; omega
    · have : k = 256 := by omega
      subst this
      have b3 := Bt.C_le a b 256
      rw [Bt.mix_full] at h4
      have h1' : wr.row? (w.heap.size+1+1+1) = some (bts (a+b)) := h4
      clear h4
      go_wp2
      exact bodyPost_ret (ret_cell2 rfl a27 rfl (by go_simp) (bts_size _) rfl) rfl ⟨rfl, below_setRow' hB (by omega) _⟩
set_option maxRecDepth 100000 in
set_option maxHeartbeats 800000 in
theorem bnot_any (a : Nat) (ha : a < 2^256) (w : World) :
    Calls Try.prog 20 #[.agg (bts a)] w fun e w' => e = .returned (.agg (bts (2^256 - 1 - a))) ∧ Below w.heap.size w w' := by
  have HD : Hid (∀ k, k < 256 → (Bt.D (2^256 - 1 - a) k : Int) = 1 - Bt.D a k) := Bt_not a ha
  clear ha
  generalize 2^256 - 1 - a = s at *
  go_enter Try.func20, Try.ntmps20
  go_wp2
  go_loopw [3] (fun i wr => ∃ k : Nat, k ≤ 256 ∧ i = .int .i64 k ∧ wr.row? w.heap.size = some (cellsK .i64 (Bt.mix k s a)) ∧ wr.row? (w.heap.size+1) = some (bts 0) ∧ Below w.heap.size w wr) (fun i _ => 256 - (intOf i).toNat)
  case atStart =>
    refine ⟨0, by omega, rfl, by go_simp; rw [Bt.mix_zero]; rfl, by go_simp, ?_⟩
    exact ((Below.refl _ _).alloc (Nat.le_refl _) _).alloc (by simp) _
  case round =>
    obtain ⟨k, hk, rfl, h1, h2, hB⟩ := hrel
    by_cases hlt : k < 256
    · have c1 := bmix_row h1 hlt
      have f1 := row_free h1 k
      have b1 := Bt_D_le a k
      have H : Hid ((Bt.mix k s a).set k (Bt.D s k : Int) = Bt.mix (k+1) s a) := Bt.mix_set k _ _ hlt
      go_wp2
      go_roundw
      case rel =>
        have e3 := H.out
        have e1 := HD.out k hlt
        refine ⟨k + 1, by omega, by go_num, ?_, ?_, ?_⟩
        · go_simp
          rw [cellsK_set, ← e3, e1]
        · go_simp
        · exact hB.setCell (Nat.le_refl _) _
      case measure => simp [intOf]; omega
    · have : k = 256 := by omega
      subst this
      rw [Bt.mix_full] at h1
      have h1' : wr.row? w.heap.size = some (bts s) := h1
      clear h1
      go_wp2
      exact bodyPost_ret (ret_cell1 rfl a27 rfl (by go_simp) (bts_size _)) rfl ⟨rfl, below_setRow' hB (by omega) _⟩
set_option maxRecDepth 100000 in
set_option maxHeartbeats 800000 in
theorem bnum_any (a : Nat) (ha : a < 2^256) (w : World) :
    Calls Try.prog 13 #[.agg (bts a)] w fun e w' => e = .returned (.agg (num a)) ∧ Below w.heap.size w w' := by
  have HA := Hid.out ha
  clear ha
  go_enter Try.func13, Try.ntmps13
  go_wp2
  go_loopw [4] (fun i wr => ∃ k : Nat, k ≤ 256 ∧ i = .int .i64 k ∧ wr.row? w.heap.size = some (bts a) ∧ wr.row? (w.heap.size+1) = some (num 0) ∧ wr.row? (w.heap.size + 1 + 1) = some (num (a % 2 ^ k)) ∧ Below w.heap.size w wr) (fun i _ => 256 - (intOf i).toNat)
  case atStart =>
    refine ⟨0, by omega, rfl, by go_simp, by go_simp, by go_simp; rw [Nat.mod_one], ?_⟩
    exact (((Below.refl _ _).alloc (Nat.le_refl _) _).alloc (by simp) _).alloc (by simp; omega) _
  case round =>
    obtain ⟨k, hk, rfl, h1, h2, h3, hB⟩ := hrel
    by_cases hlt : k < 256
    · have c1 := bts_row h1 k hlt
      have c3 := num_row h3 (k/32) (by omega)
      have f3 := row_free h3 (k/32)
      have b1 := Bt_D_le a k
      have b2 := D_lt (a % 2 ^ k) (k/32)
      have q1 : IntKind.i64.wrap ((k : Int) / 32) = (k : Int) / 32 := IntWalk.i64_in _ (by omega)
      have q2 : (0 : Int) ≤ (k : Int) / 32 := by omega
      have q3 : (k : Int) / 32 < 8 := by omega
      have q4 : ((k : Int) / 32).toNat = k / 32 := by omega
      have q5 : (0 : Int) ≤ (k : Int) % 32 := by omega
      have q6 : (k : Int) < 256 := by omega
      have q8 : (k : Int).tmod 32 = (k : Int) % 32 := Int.tmod_eq_emod_of_nonneg (by omega)
      have q9 : IntKind.u32.wrap (Bt.D a k : Int) = (Bt.D a k : Int) := by simp [IntKind.wrap, IntKind.bits, IntKind.signed]; omega
      have q7 : ((k : Int) % 32).toNat = k % 32 := by omega
      go_wp2
      go_still_tail 13, (by kernel_rfl)
      go_wp2
      go_roundw
      case rel =>
        refine ⟨k + 1, by omega, by go_num, ?_, ?_, ?_, ?_⟩
        · go_simp
        · go_simp
        · go_simp
          exact num_acc a k hlt
        · exact (hB.setCell (by show _ ≤ w.heap.size + 1 + 1; omega) _).drew
      case measure => simp [intOf]; omega
    · have : k = 256 := by omega
      subst this
      rw [Nat.mod_eq_of_lt HA] at h3
      go_wp2
      exact bodyPost_ret (ret_cell1 rfl a23 rfl (by go_simp) (num_size _)) rfl ⟨rfl, below_setRow' hB (by omega) _⟩
set_option maxRecDepth 100000 in
set_option maxHeartbeats 800000 in
theorem bless_any (a b : Nat) (ha : a < 2^256) (hb : b < 2^256) (w : World) :
    Calls Try.prog 14 #[.agg (bts a), .agg (bts b)] w fun e w' => e = .returned (.bool (decide (a < b))) ∧ Below w.heap.size w w' := by
  have HA : Hid (a < 2^256 ∧ b < 2^256) := ⟨ha, hb⟩
  clear ha hb
  go_enter Try.func14, Try.ntmps14
  go_wp2
  go_loopw [5] (fun i wr => ∃ k : Nat, k ≤ 256 ∧ i = .int .i64 (k - 1) ∧ (∀ j, k ≤ j → j < 256 → Bt.D a j = Bt.D b j) ∧ wr.row? w.heap.size = some (bts a) ∧ wr.row? (w.heap.size+1) = some (bts b) ∧ Below w.heap.size w wr) (fun i _ => (intOf i + 1).toNat)
  case atStart =>
    refine ⟨256, by omega, rfl, fun j h1 h2 => by omega, by go_simp, by go_simp, ?_⟩
    exact ((Below.refl _ _).alloc (Nat.le_refl _) _).alloc (by simp) _
  case round =>
    obtain ⟨k, hk, rfl, hj, h1, h2, hB⟩ := hrel
    have HJ : Hid _ := hj
    clear hj
    rcases k with _ | k
    · go_wp2
      go_ret
      have : a = b := Bt.recon a 256 b HA.out.2 HA.out.1 (fun i hi => HJ.out i (by omega) hi)
      exact ⟨by simp [this], hB⟩
    · have c1 := bts_row h1 k (by omega)
      have c2 := bts_row h2 k (by omega)
      have e : ((k + 1 : Nat) : Int) - 1 = k := by omega
      rw [e]
      clear e
      by_cases hd : Bt.D a k = Bt.D b k
      · have hn : ((Bt.D a k : Int) != (Bt.D b k : Int)) = false := by simp [hd]
        have HDD := Lib.hid hd
        clear hd
        go_wp2
        go_quiet (fail)
        go_wp2
        go_roundw
        case rel =>
          refine ⟨k, by omega, rfl, ?_, by go_simp, by go_simp, below_drewN' hB _⟩
          intro j hj1 hj2
          by_cases hjk : j = k
          · subst hjk; exact HDD.out
          · exact HJ.out j (by omega) hj2
        case measure => simp [intOf]
      · have hn : ((Bt.D a k : Int) != (Bt.D b k : Int)) = true := by simp; omega
        have HDD := Lib.hid hd
        clear hd
        go_wp2
        go_quiet (fail)
        go_wp2
        go_quiet (fail)
        go_wp2
        go_ret
        refine ⟨?_, below_drewN' (below_drewN' hB _) _⟩
        have e : decide (Bt.D a k < Bt.D b k) = decide (a < b) := by
          by_cases hl : Bt.D a k < Bt.D b k
          · have := Bt.cmp_lt HA.out.1 HA.out.2 k (by omega) HJ.out hl
            simp [hl, this]
          · have := Bt.cmp_lt HA.out.2 HA.out.1 k (by omega) (fun j h1 h2 => (HJ.out j h1 h2).symm) (by have := HDD.out; omega)
            have h2 : ¬ a < b := by omega
            simp [hl, h2]
        rw [← e]; rfl
end Go.Proofs.L
