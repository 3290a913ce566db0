/- Proved here: lemmas and contracts (Pw3) for the laws of this seat, for all values of the stated types; no further condition. -/
import Derived.Test.YtikbkhhgbkpijaaQa5
import Derived.Test.YtikbkhhgbkpijaaPw2
open Go Go.RowKit Go.Lib
namespace Go.Proofs.L
attribute [local irreducible] wpT
/-! the reference's Load and Store with another number of bytes; Load out of RAM -/
set_option maxRecDepth 100000 in
set_option maxHeartbeats 1600000 in
theorem rload_bad (a n : Int) (v : Value) (h1 : n ≠ 1) (h2 : n ≠ 2) (h4 : n ≠ 4) (w : World) :
    Calls Try.prog 16 #[v, .int .i64 a, .int .i64 n] w fun e w' => e = .returned (.tuple #[.int .i64 0, .bool false]) ∧ w' = w := by
  have b1 : (n != 1) = true := by rw [bne_iff_ne]; exact h1
  have b2 : (n != 2) = true := by rw [bne_iff_ne]; exact h2
  have b4 : (n != 4) = true := by rw [bne_iff_ne]; exact h4
  clear h1 h2 h4
  go_enter Try.func16, Try.ntmps16
  go_wp2
  go_ret2
  exact ⟨rfl, rfl⟩
set_option maxRecDepth 100000 in
set_option maxHeartbeats 1600000 in
theorem rstore_bad (a n : Int) (v x : Value) (h1 : n ≠ 1) (h2 : n ≠ 2) (h4 : n ≠ 4) (w : World) :
    Calls Try.prog 17 #[v, .int .i64 a, .int .i64 n, x] w fun e w' => e = .returned (.bool false) ∧ w' = w := by
  have b1 : (n != 1) = true := by rw [bne_iff_ne]; exact h1
  have b2 : (n != 2) = true := by rw [bne_iff_ne]; exact h2
  have b4 : (n != 4) = true := by rw [bne_iff_ne]; exact h4
  clear h1 h2 h4
  go_enter Try.func17, Try.ntmps17
  go_wp2
  go_ret
  exact ⟨rfl, rfl⟩
set_option maxRecDepth 100000 in
set_option maxHeartbeats 1600000 in
theorem rload_err (a n : Nat) (v : Value) (ha : a < 8589934592) (hn : n = 1 ∨ n = 2 ∨ n = 4) (hr : inRam a n = false) (w : World) :
    Calls Try.prog 16 #[v, .int .i64 (a : Int), .int .i64 (n : Int)] w fun e w' => e = .returned (.tuple #[.int .i64 0, .bool false]) ∧ w' = w := by
  have hh := rget_bad (w := w) (v := v) ha (by omega) hr
  clear hr
  rcases hn with rfl | rfl | rfl
  all_goals
    go_enter Try.func16, Try.ntmps16
    go_wp2_with fail
    refine hh.mono ?_
    rintro e w1 ⟨rfl, rfl⟩
    go_wp2_with fail
    go_loopw [10, 11] (fun s i wr => s = .int .i64 0 ∧ i = .int .i64 (-1) ∧ wr = w1) (fun _ _ _ => 0)
    case atStart => exact ⟨rfl, rfl, rfl⟩
    case round =>
      obtain ⟨rfl, rfl, rfl⟩ := hrel
      go_wp2
      go_ret2
      exact ⟨rfl, rfl⟩
set_option maxRecDepth 100000 in
set_option maxHeartbeats 1600000 in
theorem rstore_err1 {w : World} {a x : Nat} {v : Value} (ha : a < 8589934592) (ho : inRam a 1 = false) (hx : x < 4294967296) :
    Calls Try.prog 17 #[v, .int .i64 (a : Int), .int .i64 1, .int .i64 (x : Int)] w fun e w' => e = .returned (.bool false) ∧ Chg [] w w' := by
  have HA := Lib.hid ha
  have HO := Lib.hid ho
  have HX := Lib.hid hx
  clear ha ho hx
  go_enter Try.func17, Try.ntmps17
  go_wp2_with fail
  go_loopw [9, 10] (fun v i wr => ∃ k : Nat, k ≤ 1 ∧ i = .int .i64 (k : Int) ∧ wr.ownsRow w.heap.size 5 1 v k ((byL x k).map fun x : Nat => Value.int .u8 (x : Int)) ∧ Chg [] w wr) (fun _ i _ => 1 - (intOf i).toNat)
  case atStart => exact ⟨0, Nat.zero_le _, rfl, World.ownsRow_nil _ _ _ _, Chg.refl _ _⟩
  case round =>
    obtain ⟨k, hk, rfl, hown, hch⟩ := hrel
    have HOW := Lib.hid hown
    have HCH := Lib.hid hch
    clear hown hch
    obtain rfl | rfl : k = 0 ∨ k = 1 := by omega
    · obtain ⟨y, hy⟩ : ∃ y, y = byN x 0 := ⟨_, rfl⟩
      have hv : (x : Int) % 256 = (y : Int) := by rw [hy, show byN x 0 = x / 1 % 256 from rfl]; omega
      obtain ⟨B, hB⟩ : ∃ B, B = wr.heap.size := ⟨_, rfl⟩
      obtain ⟨X, hX⟩ : ∃ X, X = wr.alloc (.cells #[.int .u8 (y : Int)] 5) := ⟨_, rfl⟩
      have hcX : Chg [] wr X := by rw [hX]; exact (Chg.refl _ _).alloc _
      have HCX : Hid (Chg [] w X) := Lib.hid (HCH.out.trans hcX)
      have HOX : Hid (X.ownsRow w.heap.size 5 1 u9 0 ((byL x 0).map fun x : Nat => Value.int .u8 (x : Int))) := Lib.hid (ownsRow_chg HOW.out hcX (by intro k _; simp))
      have HRW : Hid (X.row? B = some #[.int .u8 (y : Int)]) := Lib.hid (by rw [hX]; exact row_alloc_at _ _ _ _ hB)
      have HB := Lib.hid hB
      have HX1 := Lib.hid hX
      have HY := Lib.hid hy
      clear hy hB hX hcX hk
      go_wp2_with (at_builtin; rw [← HB.out, ← HX1.out]; refine app_nat rfl _ _ 35 5 .u8 1 rfl Try.underlying35 info5 (by decide) w.heap.size u9 0 (byL x 0) rfl HOX.out B 0 1 1 [y] rfl rfl (one_cell HRW.out) (by decide) HCX.out.size ?_)
      intro v' w5 hx1 hx2
      have HC5 : Hid (Chg [] w w5) := Lib.hid (chg_grown HCX.out hx2 (fun x hx => (HOX.out.lt x hx).1))
      have HO5 : Hid (w5.ownsRow w.heap.size 5 1 v' 1 ((byL x 1).map fun x : Nat => Value.int .u8 (x : Int))) := Lib.hid (by
        rw [byL_succ, ← HY.out]; exact hx1)
      clear hx1 hx2
      go_wp2
      case roundEnd => exact ⟨⟨1, by decide, rfl, HO5.out, HC5.out⟩, by decide⟩
    · obtain ⟨q, c, rfl, hq⟩ := own_form HOW.out
      obtain ⟨g, rfl, hg⟩ := hq (by decide)
      have HG := Lib.hid hg
      clear hg hq hk
      go_wp2_with fail
      refine (rput_bad HA.out (by decide) HO.out).mono ?_
      rintro e w6 ⟨rfl, rfl⟩
      go_wp2
      go_ret
      exact ⟨rfl, HCH.out⟩
set_option maxRecDepth 100000 in
set_option maxHeartbeats 1600000 in
theorem rstore_err2 {w : World} {a x : Nat} {v : Value} (ha : a < 8589934592) (ho : inRam a 2 = false) (hx : x < 4294967296) :
    Calls Try.prog 17 #[v, .int .i64 (a : Int), .int .i64 2, .int .i64 (x : Int)] w fun e w' => e = .returned (.bool false) ∧ Chg [] w w' := by
  have HA := Lib.hid ha
  have HO := Lib.hid ho
  have HX := Lib.hid hx
  clear ha ho hx
  go_enter Try.func17, Try.ntmps17
  go_wp2_with fail
  go_loopw [9, 10] (fun v i wr => ∃ k : Nat, k ≤ 2 ∧ i = .int .i64 (k : Int) ∧ wr.ownsRow w.heap.size 5 1 v k ((byL x k).map fun x : Nat => Value.int .u8 (x : Int)) ∧ Chg [] w wr) (fun _ i _ => 2 - (intOf i).toNat)
  case atStart => exact ⟨0, Nat.zero_le _, rfl, World.ownsRow_nil _ _ _ _, Chg.refl _ _⟩
  case round =>
    obtain ⟨k, hk, rfl, hown, hch⟩ := hrel
    have HOW := Lib.hid hown
    have HCH := Lib.hid hch
    clear hown hch
    obtain rfl | rfl | rfl : k = 0 ∨ k = 1 ∨ k = 2 := by omega
    · obtain ⟨y, hy⟩ : ∃ y, y = byN x 0 := ⟨_, rfl⟩
      have hv : (x : Int) % 256 = (y : Int) := by rw [hy, show byN x 0 = x / 1 % 256 from rfl]; omega
      obtain ⟨B, hB⟩ : ∃ B, B = wr.heap.size := ⟨_, rfl⟩
      obtain ⟨X, hX⟩ : ∃ X, X = wr.alloc (.cells #[.int .u8 (y : Int)] 5) := ⟨_, rfl⟩
      have hcX : Chg [] wr X := by rw [hX]; exact (Chg.refl _ _).alloc _
      have HCX : Hid (Chg [] w X) := Lib.hid (HCH.out.trans hcX)
      have HOX : Hid (X.ownsRow w.heap.size 5 1 u9 0 ((byL x 0).map fun x : Nat => Value.int .u8 (x : Int))) := Lib.hid (ownsRow_chg HOW.out hcX (by intro k _; simp))
      have HRW : Hid (X.row? B = some #[.int .u8 (y : Int)]) := Lib.hid (by rw [hX]; exact row_alloc_at _ _ _ _ hB)
      have HB := Lib.hid hB
      have HX1 := Lib.hid hX
      have HY := Lib.hid hy
      clear hy hB hX hcX hk
      go_wp2_with (at_builtin; rw [← HB.out, ← HX1.out]; refine app_nat rfl _ _ 35 5 .u8 1 rfl Try.underlying35 info5 (by decide) w.heap.size u9 0 (byL x 0) rfl HOX.out B 0 1 1 [y] rfl rfl (one_cell HRW.out) (by decide) HCX.out.size ?_)
      intro v' w5 hx1 hx2
      have HC5 : Hid (Chg [] w w5) := Lib.hid (chg_grown HCX.out hx2 (fun x hx => (HOX.out.lt x hx).1))
      have HO5 : Hid (w5.ownsRow w.heap.size 5 1 v' 1 ((byL x 1).map fun x : Nat => Value.int .u8 (x : Int))) := Lib.hid (by
        rw [byL_succ, ← HY.out]; exact hx1)
      clear hx1 hx2
      go_wp2
      case roundEnd => exact ⟨⟨1, by decide, rfl, HO5.out, HC5.out⟩, by decide⟩
    · obtain ⟨y, hy⟩ : ∃ y, y = byN x 1 := ⟨_, rfl⟩
      have hv : (x : Int) / 256 % 256 = (y : Int) := by rw [hy, show byN x 1 = x / 256 % 256 from rfl]; omega
      obtain ⟨B, hB⟩ : ∃ B, B = wr.heap.size := ⟨_, rfl⟩
      obtain ⟨X, hX⟩ : ∃ X, X = wr.alloc (.cells #[.int .u8 (y : Int)] 5) := ⟨_, rfl⟩
      have hcX : Chg [] wr X := by rw [hX]; exact (Chg.refl _ _).alloc _
      have HCX : Hid (Chg [] w X) := Lib.hid (HCH.out.trans hcX)
      have HOX : Hid (X.ownsRow w.heap.size 5 1 u9 1 ((byL x 1).map fun x : Nat => Value.int .u8 (x : Int))) := Lib.hid (ownsRow_chg HOW.out hcX (by intro k _; simp))
      have HRW : Hid (X.row? B = some #[.int .u8 (y : Int)]) := Lib.hid (by rw [hX]; exact row_alloc_at _ _ _ _ hB)
      have HB := Lib.hid hB
      have HX1 := Lib.hid hX
      have HY := Lib.hid hy
      clear hy hB hX hcX hk
      go_wp2_with (at_builtin; rw [← HB.out, ← HX1.out]; refine app_nat rfl _ _ 35 5 .u8 1 rfl Try.underlying35 info5 (by decide) w.heap.size u9 1 (byL x 1) rfl HOX.out B 0 1 1 [y] rfl rfl (one_cell HRW.out) (by decide) HCX.out.size ?_)
      intro v' w5 hx1 hx2
      have HC5 : Hid (Chg [] w w5) := Lib.hid (chg_grown HCX.out hx2 (fun x hx => (HOX.out.lt x hx).1))
      have HO5 : Hid (w5.ownsRow w.heap.size 5 1 v' 2 ((byL x 2).map fun x : Nat => Value.int .u8 (x : Int))) := Lib.hid (by
        rw [byL_succ, ← HY.out]; exact hx1)
      clear hx1 hx2
      go_wp2
      case roundEnd => exact ⟨⟨2, by decide, rfl, HO5.out, HC5.out⟩, by decide⟩
    · obtain ⟨q, c, rfl, hq⟩ := own_form HOW.out
      obtain ⟨g, rfl, hg⟩ := hq (by decide)
      have HG := Lib.hid hg
      clear hg hq hk
      go_wp2_with fail
      refine (rput_bad HA.out (by decide) HO.out).mono ?_
      rintro e w6 ⟨rfl, rfl⟩
      go_wp2
      go_ret
      exact ⟨rfl, HCH.out⟩
set_option maxRecDepth 100000 in
set_option maxHeartbeats 1600000 in
theorem rstore_err4 {w : World} {a x : Nat} {v : Value} (ha : a < 8589934592) (ho : inRam a 4 = false) (hx : x < 4294967296) :
    Calls Try.prog 17 #[v, .int .i64 (a : Int), .int .i64 4, .int .i64 (x : Int)] w fun e w' => e = .returned (.bool false) ∧ Chg [] w w' := by
  have HA := Lib.hid ha
  have HO := Lib.hid ho
  have HX := Lib.hid hx
  clear ha ho hx
  go_enter Try.func17, Try.ntmps17
  go_wp2_with fail
  go_loopw [9, 10] (fun v i wr => ∃ k : Nat, k ≤ 4 ∧ i = .int .i64 (k : Int) ∧ wr.ownsRow w.heap.size 5 1 v k ((byL x k).map fun x : Nat => Value.int .u8 (x : Int)) ∧ Chg [] w wr) (fun _ i _ => 4 - (intOf i).toNat)
  case atStart => exact ⟨0, Nat.zero_le _, rfl, World.ownsRow_nil _ _ _ _, Chg.refl _ _⟩
  case round =>
    obtain ⟨k, hk, rfl, hown, hch⟩ := hrel
    have HOW := Lib.hid hown
    have HCH := Lib.hid hch
    clear hown hch
    obtain rfl | rfl | rfl | rfl | rfl : k = 0 ∨ k = 1 ∨ k = 2 ∨ k = 3 ∨ k = 4 := by omega
    · obtain ⟨y, hy⟩ : ∃ y, y = byN x 0 := ⟨_, rfl⟩
      have hv : (x : Int) % 256 = (y : Int) := by rw [hy, show byN x 0 = x / 1 % 256 from rfl]; omega
      obtain ⟨B, hB⟩ : ∃ B, B = wr.heap.size := ⟨_, rfl⟩
      obtain ⟨X, hX⟩ : ∃ X, X = wr.alloc (.cells #[.int .u8 (y : Int)] 5) := ⟨_, rfl⟩
      have hcX : Chg [] wr X := by rw [hX]; exact (Chg.refl _ _).alloc _
      have HCX : Hid (Chg [] w X) := Lib.hid (HCH.out.trans hcX)
      have HOX : Hid (X.ownsRow w.heap.size 5 1 u9 0 ((byL x 0).map fun x : Nat => Value.int .u8 (x : Int))) := Lib.hid (ownsRow_chg HOW.out hcX (by intro k _; simp))
      have HRW : Hid (X.row? B = some #[.int .u8 (y : Int)]) := Lib.hid (by rw [hX]; exact row_alloc_at _ _ _ _ hB)
      have HB := Lib.hid hB
      have HX1 := Lib.hid hX
      have HY := Lib.hid hy
      clear hy hB hX hcX hk
      go_wp2_with (at_builtin; rw [← HB.out, ← HX1.out]; refine app_nat rfl _ _ 35 5 .u8 1 rfl Try.underlying35 info5 (by decide) w.heap.size u9 0 (byL x 0) rfl HOX.out B 0 1 1 [y] rfl rfl (one_cell HRW.out) (by decide) HCX.out.size ?_)
      intro v' w5 hx1 hx2
      have HC5 : Hid (Chg [] w w5) := Lib.hid (chg_grown HCX.out hx2 (fun x hx => (HOX.out.lt x hx).1))
      have HO5 : Hid (w5.ownsRow w.heap.size 5 1 v' 1 ((byL x 1).map fun x : Nat => Value.int .u8 (x : Int))) := Lib.hid (by
        rw [byL_succ, ← HY.out]; exact hx1)
      clear hx1 hx2
      go_wp2
      case roundEnd => exact ⟨⟨1, by decide, rfl, HO5.out, HC5.out⟩, by decide⟩
    · obtain ⟨y, hy⟩ : ∃ y, y = byN x 1 := ⟨_, rfl⟩
      have hv : (x : Int) / 256 % 256 = (y : Int) := by rw [hy, show byN x 1 = x / 256 % 256 from rfl]; omega
      obtain ⟨B, hB⟩ : ∃ B, B = wr.heap.size := ⟨_, rfl⟩
      obtain ⟨X, hX⟩ : ∃ X, X = wr.alloc (.cells #[.int .u8 (y : Int)] 5) := ⟨_, rfl⟩
      have hcX : Chg [] wr X := by rw [hX]; exact (Chg.refl _ _).alloc _
      have HCX : Hid (Chg [] w X) := Lib.hid (HCH.out.trans hcX)
      have HOX : Hid (X.ownsRow w.heap.size 5 1 u9 1 ((byL x 1).map fun x : Nat => Value.int .u8 (x : Int))) := Lib.hid (ownsRow_chg HOW.out hcX (by intro k _; simp))
      have HRW : Hid (X.row? B = some #[.int .u8 (y : Int)]) := Lib.hid (by rw [hX]; exact row_alloc_at _ _ _ _ hB)
      have HB := Lib.hid hB
      have HX1 := Lib.hid hX
      have HY := Lib.hid hy
      clear hy hB hX hcX hk
      go_wp2_with (at_builtin; rw [← HB.out, ← HX1.out]; refine app_nat rfl _ _ 35 5 .u8 1 rfl Try.underlying35 info5 (by decide) w.heap.size u9 1 (byL x 1) rfl HOX.out B 0 1 1 [y] rfl rfl (one_cell HRW.out) (by decide) HCX.out.size ?_)
      intro v' w5 hx1 hx2
      have HC5 : Hid (Chg [] w w5) := Lib.hid (chg_grown HCX.out hx2 (fun x hx => (HOX.out.lt x hx).1))
      have HO5 : Hid (w5.ownsRow w.heap.size 5 1 v' 2 ((byL x 2).map fun x : Nat => Value.int .u8 (x : Int))) := Lib.hid (by
        rw [byL_succ, ← HY.out]; exact hx1)
      clear hx1 hx2
      go_wp2
      case roundEnd => exact ⟨⟨2, by decide, rfl, HO5.out, HC5.out⟩, by decide⟩
    · obtain ⟨y, hy⟩ : ∃ y, y = byN x 2 := ⟨_, rfl⟩
      have hv : (x : Int) / 65536 % 256 = (y : Int) := by rw [hy, show byN x 2 = x / 65536 % 256 from rfl]; omega
      obtain ⟨B, hB⟩ : ∃ B, B = wr.heap.size := ⟨_, rfl⟩
      obtain ⟨X, hX⟩ : ∃ X, X = wr.alloc (.cells #[.int .u8 (y : Int)] 5) := ⟨_, rfl⟩
      have hcX : Chg [] wr X := by rw [hX]; exact (Chg.refl _ _).alloc _
      have HCX : Hid (Chg [] w X) := Lib.hid (HCH.out.trans hcX)
      have HOX : Hid (X.ownsRow w.heap.size 5 1 u9 2 ((byL x 2).map fun x : Nat => Value.int .u8 (x : Int))) := Lib.hid (ownsRow_chg HOW.out hcX (by intro k _; simp))
      have HRW : Hid (X.row? B = some #[.int .u8 (y : Int)]) := Lib.hid (by rw [hX]; exact row_alloc_at _ _ _ _ hB)
      have HB := Lib.hid hB
      have HX1 := Lib.hid hX
      have HY := Lib.hid hy
      clear hy hB hX hcX hk
      go_wp2_with (at_builtin; rw [← HB.out, ← HX1.out]; refine app_nat rfl _ _ 35 5 .u8 1 rfl Try.underlying35 info5 (by decide) w.heap.size u9 2 (byL x 2) rfl HOX.out B 0 1 1 [y] rfl rfl (one_cell HRW.out) (by decide) HCX.out.size ?_)
      intro v' w5 hx1 hx2
      have HC5 : Hid (Chg [] w w5) := Lib.hid (chg_grown HCX.out hx2 (fun x hx => (HOX.out.lt x hx).1))
      have HO5 : Hid (w5.ownsRow w.heap.size 5 1 v' 3 ((byL x 3).map fun x : Nat => Value.int .u8 (x : Int))) := Lib.hid (by
        rw [byL_succ, ← HY.out]; exact hx1)
      clear hx1 hx2
      go_wp2
      case roundEnd => exact ⟨⟨3, by decide, rfl, HO5.out, HC5.out⟩, by decide⟩
    · obtain ⟨y, hy⟩ : ∃ y, y = byN x 3 := ⟨_, rfl⟩
      have hv : (x : Int) / 16777216 % 256 = (y : Int) := by rw [hy, show byN x 3 = x / 16777216 % 256 from rfl]; omega
      obtain ⟨B, hB⟩ : ∃ B, B = wr.heap.size := ⟨_, rfl⟩
      obtain ⟨X, hX⟩ : ∃ X, X = wr.alloc (.cells #[.int .u8 (y : Int)] 5) := ⟨_, rfl⟩
      have hcX : Chg [] wr X := by rw [hX]; exact (Chg.refl _ _).alloc _
      have HCX : Hid (Chg [] w X) := Lib.hid (HCH.out.trans hcX)
      have HOX : Hid (X.ownsRow w.heap.size 5 1 u9 3 ((byL x 3).map fun x : Nat => Value.int .u8 (x : Int))) := Lib.hid (ownsRow_chg HOW.out hcX (by intro k _; simp))
      have HRW : Hid (X.row? B = some #[.int .u8 (y : Int)]) := Lib.hid (by rw [hX]; exact row_alloc_at _ _ _ _ hB)
      have HB := Lib.hid hB
      have HX1 := Lib.hid hX
      have HY := Lib.hid hy
      clear hy hB hX hcX hk
      go_wp2_with (at_builtin; rw [← HB.out, ← HX1.out]; refine app_nat rfl _ _ 35 5 .u8 1 rfl Try.underlying35 info5 (by decide) w.heap.size u9 3 (byL x 3) rfl HOX.out B 0 1 1 [y] rfl rfl (one_cell HRW.out) (by decide) HCX.out.size ?_)
      intro v' w5 hx1 hx2
      have HC5 : Hid (Chg [] w w5) := Lib.hid (chg_grown HCX.out hx2 (fun x hx => (HOX.out.lt x hx).1))
      have HO5 : Hid (w5.ownsRow w.heap.size 5 1 v' 4 ((byL x 4).map fun x : Nat => Value.int .u8 (x : Int))) := Lib.hid (by
        rw [byL_succ, ← HY.out]; exact hx1)
      clear hx1 hx2
      go_wp2
      case roundEnd => exact ⟨⟨4, by decide, rfl, HO5.out, HC5.out⟩, by decide⟩
    · obtain ⟨q, c, rfl, hq⟩ := own_form HOW.out
      obtain ⟨g, rfl, hg⟩ := hq (by decide)
      have HG := Lib.hid hg
      clear hg hq hk
      go_wp2_with fail
      refine (rput_bad HA.out (by decide) HO.out).mono ?_
      rintro e w6 ⟨rfl, rfl⟩
      go_wp2
      go_ret
      exact ⟨rfl, HCH.out⟩
theorem rstore_err {w : World} {a n x : Nat} {v : Value} (ha : a < 8589934592) (hn : n = 1 ∨ n = 2 ∨ n = 4) (ho : inRam a n = false) (hx : x < 4294967296) :
    Calls Try.prog 17 #[v, .int .i64 (a : Int), .int .i64 (n : Int), .int .i64 (x : Int)] w fun e w' => e = .returned (.bool false) ∧ Chg [] w w' := by
  rcases hn with rfl | rfl | rfl
  · exact rstore_err1 ha ho hx
  · exact rstore_err2 ha ho hx
  · exact rstore_err4 ha ho hx
end Go.Proofs.L
