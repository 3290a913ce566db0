/- Proved here: lemmas and contracts (P3) for the laws of this seat, for all values of the stated types; no further condition. -/
import Derived.Test.YtikbkhhgbkpijaaP2
open Go Go.RowKit Go.Lib
namespace Go.Proofs.L
attribute [local go_sem] mem_size mem_all
set_option maxRecDepth 100000 in
set_option maxHeartbeats 1600000 in
theorem store_ok (f : Nat → Nat) (a o n b x : Nat) (ho : a = o + 2147483648) (hn : n = 1 ∨ n = 2 ∨ n = 4) (hr : o + n ≤ 65536) (hx : x < 4294967296) (w : World) (hw : w.row? b = some (mem f)) :
    Calls Try.prog 9 #[.pointer (some ⟨b, 0, none⟩), .int .u32 (a : Int), .int .i64 (n : Int), .int .u32 (x : Int)] w fun e w' => e = .returned (.int .i64 0) ∧ w'.row? b = some (mem (stN f o x n)) ∧ Chg [b] w w' := by
  have hi : inRam a n = true := by simp [inRam]; omega
  have hh := has_any a n (by omega) (by omega) ⟨b, 0, none⟩ w
  rw [hi] at hh
  have y1 : IntKind.u32.wrap ((a : Int) - 2147483648) = o := by rw [ho]; simp [IntKind.wrap, IntKind.bits, IntKind.signed]; omega
  clear ho hi
  rcases hn with rfl | rfl | rfl
  · have hu : IntKind.u32.wrap (1 : Int) = 1 := rfl
    go_enter Try.func9, Try.ntmps9
    go_wp2_with fail
    refine hh.mono ?_
    rintro e w1 ⟨rfl, rfl⟩
    go_wp2
    clear hh hu
    go_loopw [29] (fun i wr => ∃ k : Nat, k ≤ 1 ∧ i = .int .i64 k ∧ wr.row? b = some (mem (stN f o x k)) ∧ Chg [b] w1 wr) (fun i _ => 1 - (intOf i).toNat)
    case atStart => exact ⟨0, by omega, rfl, hw, Chg.refl _ _⟩
    case round =>
      obtain ⟨k, hk, rfl, hw1, hC⟩ := hrel
      clear hw
      obtain rfl | rfl : k = 0 ∨ k = 1 := by omega
      · have c1 := mem_row hw1 o (by omega)
        have f1 := row_free hw1 o
        have w0 : IntKind.u32.wrap 0 = 0 := rfl
        have w1 : IntKind.i64.wrap 0 = 0 := rfl
        have y3 : IntKind.u32.wrap (o : Int) = (o : Int) := u32_id (by omega)
        have z1 : IntKind.u8.wrap (x : Int) = ((x % 256 : Nat) : Int) := by simp [IntKind.wrap, IntKind.bits, IntKind.signed]
        go_wp2
        go_still_tail 13, (by kernel_rfl)
        go_wp2
        go_roundw
        case rel =>
          refine ⟨1, by omega, rfl, ?_, (hC.drewN _).setCell (Or.inl (by simp)) _⟩
          go_simp
          have e := mem_set (stN f o x 0) o (x % 256)
          push_cast at e
          rw [e]; simp [stN]
        case measure => simp [intOf]
      · go_wp2
        go_ret
        exact ⟨rfl, hw1, hC⟩
  · have hu : IntKind.u32.wrap (2 : Int) = 2 := rfl
    go_enter Try.func9, Try.ntmps9
    go_wp2_with fail
    refine hh.mono ?_
    rintro e w1 ⟨rfl, rfl⟩
    go_wp2
    clear hh hu
    go_loopw [29] (fun i wr => ∃ k : Nat, k ≤ 2 ∧ i = .int .i64 k ∧ wr.row? b = some (mem (stN f o x k)) ∧ Chg [b] w1 wr) (fun i _ => 2 - (intOf i).toNat)
    case atStart => exact ⟨0, by omega, rfl, hw, Chg.refl _ _⟩
    case round =>
      obtain ⟨k, hk, rfl, hw1, hC⟩ := hrel
      clear hw
      by_cases hlt : k < 2
      · have c1 := mem_row hw1 (o + k) (by omega)
        have f1 := row_free hw1 (o + k)
        have y2 : IntKind.u32.wrap (k : Int) = k := u32_id (by omega)
        have y3 : IntKind.u32.wrap ((o : Int) + k) = (o : Int) + k := by rw [show (o : Int) + k = ((o + k : Nat) : Int) from by omega]; exact u32_id (by omega)
        have y4 : ((o : Int) + k).toNat = o + k := by omega
        have y5 : IntKind.i64.wrap (8 * (k : Int)) = 8 * (k : Int) := IntWalk.i64_in _ (by omega)
        have y6 : (0 : Int) ≤ 8 * (k : Int) := by omega
        have y7 : (8 * (k : Int)).toNat = 8 * k := by omega
        have y9 : (0 : Int) ≤ (o : Int) + k := by omega
        have z1 : IntKind.u8.wrap ((x : Int) / 2 ^ (8 * k)) = ((x / 2 ^ (8 * k) % 256 : Nat) : Int) := by
          rw [show (x : Int) / 2 ^ (8 * k) = ((x / 2 ^ (8 * k) : Nat) : Int) from by push_cast; rfl]
          simp [IntKind.wrap, IntKind.bits, IntKind.signed]
        have z3 : IntKind.i64.wrap ((k : Int) + 1) = (k : Int) + 1 := IntWalk.i64_in _ (by omega)
        go_wp2
        go_still_tail 13, (by kernel_rfl)
        go_wp2
        go_roundw
        case rel =>
          refine ⟨k + 1, hlt, rfl, ?_, (hC.drewN _).setCell (Or.inl (by simp)) _⟩
          go_simp
          have e := mem_set (stN f o x k) (o + k) (x / 2 ^ (8 * k) % 256)
          push_cast at e
          rw [e]; rfl
        case measure => simp [intOf]; omega
      · obtain rfl : k = 2 := by omega
        go_wp2
        go_ret
        exact ⟨rfl, hw1, hC⟩
  · have hu : IntKind.u32.wrap (4 : Int) = 4 := rfl
    go_enter Try.func9, Try.ntmps9
    go_wp2_with fail
    refine hh.mono ?_
    rintro e w1 ⟨rfl, rfl⟩
    go_wp2
    clear hh hu
    go_loopw [29] (fun i wr => ∃ k : Nat, k ≤ 4 ∧ i = .int .i64 k ∧ wr.row? b = some (mem (stN f o x k)) ∧ Chg [b] w1 wr) (fun i _ => 4 - (intOf i).toNat)
    case atStart => exact ⟨0, by omega, rfl, hw, Chg.refl _ _⟩
    case round =>
      obtain ⟨k, hk, rfl, hw1, hC⟩ := hrel
      clear hw
      by_cases hlt : k < 4
      · have c1 := mem_row hw1 (o + k) (by omega)
        have f1 := row_free hw1 (o + k)
        have y2 : IntKind.u32.wrap (k : Int) = k := u32_id (by omega)
        have y3 : IntKind.u32.wrap ((o : Int) + k) = (o : Int) + k := by rw [show (o : Int) + k = ((o + k : Nat) : Int) from by omega]; exact u32_id (by omega)
        have y4 : ((o : Int) + k).toNat = o + k := by omega
        have y5 : IntKind.i64.wrap (8 * (k : Int)) = 8 * (k : Int) := IntWalk.i64_in _ (by omega)
        have y6 : (0 : Int) ≤ 8 * (k : Int) := by omega
        have y7 : (8 * (k : Int)).toNat = 8 * k := by omega
        have y9 : (0 : Int) ≤ (o : Int) + k := by omega
        have z1 : IntKind.u8.wrap ((x : Int) / 2 ^ (8 * k)) = ((x / 2 ^ (8 * k) % 256 : Nat) : Int) := by
          rw [show (x : Int) / 2 ^ (8 * k) = ((x / 2 ^ (8 * k) : Nat) : Int) from by push_cast; rfl]
          simp [IntKind.wrap, IntKind.bits, IntKind.signed]
        have z3 : IntKind.i64.wrap ((k : Int) + 1) = (k : Int) + 1 := IntWalk.i64_in _ (by omega)
        go_wp2
        go_still_tail 13, (by kernel_rfl)
        go_wp2
        go_roundw
        case rel =>
          refine ⟨k + 1, hlt, rfl, ?_, (hC.drewN _).setCell (Or.inl (by simp)) _⟩
          go_simp
          have e := mem_set (stN f o x k) (o + k) (x / 2 ^ (8 * k) % 256)
          push_cast at e
          rw [e]; rfl
        case measure => simp [intOf]; omega
      · obtain rfl : k = 4 := by omega
        go_wp2
        go_ret
        exact ⟨rfl, hw1, hC⟩
end Go.Proofs.L
