/- Proved here: lemmas and contracts (Qa3) for the laws of this seat, for all values of the stated types; no further condition. -/
import Derived.Test.YtikbkhhgbkpijaaQa2
open Go Go.RowKit Go.Lib Go.Maps
namespace Go.Proofs.L
attribute [local irreducible] wpT
/-! the reference's Store -/
def byN (x k : Nat) : Nat := x / 2 ^ (8 * k) % 256
def byL (x k : Nat) : List Nat := (List.range k).map (byN x)
theorem byL_succ (x k : Nat) : byL x (k + 1) = byL x k ++ [byN x k] := by unfold byL; rw [List.range_succ, List.map_append]; rfl
theorem byL_get (x k j : Nat) (h : j < k) : (byL x k)[j]? = some (byN x j) := by unfold byL; simp [h]
theorem putN_st (f : Nat → Nat) (o x n : Nat) : putN f o (byN x) n = stN f o x n := by
  funext i; rw [stN_get]; rfl
theorem RamAt.mlt {w : World} {p m N : Nat} {f : Nat → Nat} (h : RamAt w p m N f) : m < w.heap.size := by
  obtain ⟨D, h1, _⟩ := h.own
  exact h1.lt
theorem one_cell {k : IntKind} {w : World} {b x : Nat} (h : w.row? b = some #[.int k (x : Int)]) : ∀ (j y : Nat), [x][j]? = some y → w.cell? ⟨b, 0 + j, none⟩ = some (.int k (y : Int)) := by
  intro j y hj
  rw [row_cell h, Nat.zero_add]
  cases j with
  | zero => obtain rfl := Option.some.inj hj; rfl
  | succ j => simp at hj
set_option maxRecDepth 100000 in
set_option maxHeartbeats 1600000 in
theorem rstore_1 {w : World} {p m N : Nat} {f : Nat → Nat} {a o x : Nat} (hR : RamAt w p m N f) (ha : a = 2147483648 + o) (ho : o + 1 ≤ 65536) (hx : x < 4294967296) (hN : N < 1000000000) :
    Calls Try.prog 17 #[.pointer (some ⟨p, 0, none⟩), .int .i64 (a : Int), .int .i64 1, .int .i64 (x : Int)] w fun e w' => e = .returned (.bool true) ∧ RamAt w' p m (N + 1) (stN f o x 1) ∧ Chg [m] w w' := by
  have HR := Lib.hid hR
  have HA := Lib.hid ha
  have HO := Lib.hid ho
  have HX := Lib.hid hx
  have HN := Lib.hid hN
  clear hR ha ho hx hN
  go_enter Try.func17, Try.ntmps17
  go_wp2_with fail
  go_loopw [9, 10] (fun v i wr => ∃ k : Nat, k ≤ 1 ∧ i = .int .i64 (k : Int) ∧ wr.ownsRow w.heap.size 5 1 v k ((byL x k).map fun x : Nat => Value.int .u8 (x : Int)) ∧ Chg [] w wr) (fun _ i _ => 1 - (intOf i).toNat)
  case atStart => exact ⟨0, Nat.zero_le _, rfl, World.ownsRow_nil _ _ _ _, Chg.refl _ _⟩
  case round =>
    obtain ⟨k, hk, rfl, hown, hch⟩ := hrel
    have HOW := Lib.hid hown
    have HCH := Lib.hid hch
    clear hown hch
    obtain rfl | rfl : k = 0 ∨ k = 1 := by omega
    · obtain ⟨y, hy⟩ : ∃ y, y = byN x 0 := ⟨_, rfl⟩
      have hv : (x : Int) % 256 = (y : Int) := by rw [hy, show byN x 0 = x / 1 % 256 from rfl]; omega
      obtain ⟨B, hB⟩ : ∃ B, B = wr.heap.size := ⟨_, rfl⟩
      obtain ⟨X, hX⟩ : ∃ X, X = wr.alloc (.cells #[.int .u8 (y : Int)] 5) := ⟨_, rfl⟩
      have hcX : Chg [] wr X := by rw [hX]; exact (Chg.refl _ _).alloc _
      have HCX : Hid (Chg [] w X) := Lib.hid (HCH.out.trans hcX)
      have HOX : Hid (X.ownsRow w.heap.size 5 1 u9 0 ((byL x 0).map fun x : Nat => Value.int .u8 (x : Int))) := Lib.hid (ownsRow_chg HOW.out hcX (by intro k _; simp))
      have HRW : Hid (X.row? B = some #[.int .u8 (y : Int)]) := Lib.hid (by rw [hX]; exact row_alloc_at _ _ _ _ hB)
      have HB := Lib.hid hB
      have HX1 := Lib.hid hX
      have HY := Lib.hid hy
      clear hy hB hX hcX hk
      go_wp2_with (at_builtin; rw [← HB.out, ← HX1.out]; refine app_nat rfl _ _ 35 5 .u8 1 rfl Try.underlying35 info5 (by decide) w.heap.size u9 0 (byL x 0) rfl HOX.out B 0 1 1 [y] rfl rfl (one_cell HRW.out) (by decide) HCX.out.size ?_)
      intro v' w5 hx1 hx2
      have HC5 : Hid (Chg [] w w5) := Lib.hid (chg_grown HCX.out hx2 (fun x hx => (HOX.out.lt x hx).1))
      have HO5 : Hid (w5.ownsRow w.heap.size 5 1 v' 1 ((byL x 1).map fun x : Nat => Value.int .u8 (x : Int))) := Lib.hid (by
        rw [byL_succ, ← HY.out]; exact hx1)
      clear hx1 hx2
      go_wp2
      case roundEnd => exact ⟨⟨1, by decide, rfl, HO5.out, HC5.out⟩, by decide⟩
    · obtain ⟨q, c, rfl, hq⟩ := own_form HOW.out
      obtain ⟨g, rfl, hg⟩ := hq (by decide)
      have HG := Lib.hid hg
      clear hg hq hk
      go_wp2_with fail
      refine (rput_ok (n := 1) (HR.out.keep HCH.out (by simp) (by simp)) (g := byN x) (bb := g) (bo := 0) HA.out HO.out (fun _ => rfl) (by have h1 := HOW.out.lt g HG.out; have h2 := HR.out.mlt; omega) (fun j hj => ⟨by rw [Nat.zero_add]; exact cellsAt HOW.out HG.out j _ (by rw [List.getElem?_map, byL_get x 1 j hj]; rfl), Nat.mod_lt _ (by decide)⟩) HN.out).mono ?_
      rintro e w6 ⟨rfl, hr6, hc6⟩
      rw [putN_st] at hr6
      have HR6 := Lib.hid hr6
      have HC6 : Hid (Chg [m] w w6) := Lib.hid ((⟨HCH.out.os, HCH.out.tape, HCH.out.output, HCH.out.size, fun k hk _ => HCH.out.block k hk (by simp)⟩ : Chg [m] w wr).trans hc6)
      clear hr6 hc6
      go_wp2
      go_ret
      exact ⟨rfl, HR6.out, HC6.out⟩
set_option maxRecDepth 100000 in
set_option maxHeartbeats 1600000 in
theorem rstore_2 {w : World} {p m N : Nat} {f : Nat → Nat} {a o x : Nat} (hR : RamAt w p m N f) (ha : a = 2147483648 + o) (ho : o + 2 ≤ 65536) (hx : x < 4294967296) (hN : N < 1000000000) :
    Calls Try.prog 17 #[.pointer (some ⟨p, 0, none⟩), .int .i64 (a : Int), .int .i64 2, .int .i64 (x : Int)] w fun e w' => e = .returned (.bool true) ∧ RamAt w' p m (N + 2) (stN f o x 2) ∧ Chg [m] w w' := by
  have HR := Lib.hid hR
  have HA := Lib.hid ha
  have HO := Lib.hid ho
  have HX := Lib.hid hx
  have HN := Lib.hid hN
  clear hR ha ho hx hN
  go_enter Try.func17, Try.ntmps17
  go_wp2_with fail
  go_loopw [9, 10] (fun v i wr => ∃ k : Nat, k ≤ 2 ∧ i = .int .i64 (k : Int) ∧ wr.ownsRow w.heap.size 5 1 v k ((byL x k).map fun x : Nat => Value.int .u8 (x : Int)) ∧ Chg [] w wr) (fun _ i _ => 2 - (intOf i).toNat)
  case atStart => exact ⟨0, Nat.zero_le _, rfl, World.ownsRow_nil _ _ _ _, Chg.refl _ _⟩
  case round =>
    obtain ⟨k, hk, rfl, hown, hch⟩ := hrel
    have HOW := Lib.hid hown
    have HCH := Lib.hid hch
    clear hown hch
    obtain rfl | rfl | rfl : k = 0 ∨ k = 1 ∨ k = 2 := by omega
    · obtain ⟨y, hy⟩ : ∃ y, y = byN x 0 := ⟨_, rfl⟩
      have hv : (x : Int) % 256 = (y : Int) := by rw [hy, show byN x 0 = x / 1 % 256 from rfl]; omega
      obtain ⟨B, hB⟩ : ∃ B, B = wr.heap.size := ⟨_, rfl⟩
      obtain ⟨X, hX⟩ : ∃ X, X = wr.alloc (.cells #[.int .u8 (y : Int)] 5) := ⟨_, rfl⟩
      have hcX : Chg [] wr X := by rw [hX]; exact (Chg.refl _ _).alloc _
      have HCX : Hid (Chg [] w X) := Lib.hid (HCH.out.trans hcX)
      have HOX : Hid (X.ownsRow w.heap.size 5 1 u9 0 ((byL x 0).map fun x : Nat => Value.int .u8 (x : Int))) := Lib.hid (ownsRow_chg HOW.out hcX (by intro k _; simp))
      have HRW : Hid (X.row? B = some #[.int .u8 (y : Int)]) := Lib.hid (by rw [hX]; exact row_alloc_at _ _ _ _ hB)
      have HB := Lib.hid hB
      have HX1 := Lib.hid hX
      have HY := Lib.hid hy
      clear hy hB hX hcX hk
      go_wp2_with (at_builtin; rw [← HB.out, ← HX1.out]; refine app_nat rfl _ _ 35 5 .u8 1 rfl Try.underlying35 info5 (by decide) w.heap.size u9 0 (byL x 0) rfl HOX.out B 0 1 1 [y] rfl rfl (one_cell HRW.out) (by decide) HCX.out.size ?_)
      intro v' w5 hx1 hx2
      have HC5 : Hid (Chg [] w w5) := Lib.hid (chg_grown HCX.out hx2 (fun x hx => (HOX.out.lt x hx).1))
      have HO5 : Hid (w5.ownsRow w.heap.size 5 1 v' 1 ((byL x 1).map fun x : Nat => Value.int .u8 (x : Int))) := Lib.hid (by
        rw [byL_succ, ← HY.out]; exact hx1)
      clear hx1 hx2
      go_wp2
      case roundEnd => exact ⟨⟨1, by decide, rfl, HO5.out, HC5.out⟩, by decide⟩
    · obtain ⟨y, hy⟩ : ∃ y, y = byN x 1 := ⟨_, rfl⟩
      have hv : (x : Int) / 256 % 256 = (y : Int) := by rw [hy, show byN x 1 = x / 256 % 256 from rfl]; omega
      obtain ⟨B, hB⟩ : ∃ B, B = wr.heap.size := ⟨_, rfl⟩
      obtain ⟨X, hX⟩ : ∃ X, X = wr.alloc (.cells #[.int .u8 (y : Int)] 5) := ⟨_, rfl⟩
      have hcX : Chg [] wr X := by rw [hX]; exact (Chg.refl _ _).alloc _
      have HCX : Hid (Chg [] w X) := Lib.hid (HCH.out.trans hcX)
      have HOX : Hid (X.ownsRow w.heap.size 5 1 u9 1 ((byL x 1).map fun x : Nat => Value.int .u8 (x : Int))) := Lib.hid (ownsRow_chg HOW.out hcX (by intro k _; simp))
      have HRW : Hid (X.row? B = some #[.int .u8 (y : Int)]) := Lib.hid (by rw [hX]; exact row_alloc_at _ _ _ _ hB)
      have HB := Lib.hid hB
      have HX1 := Lib.hid hX
      have HY := Lib.hid hy
      clear hy hB hX hcX hk
      go_wp2_with (at_builtin; rw [← HB.out, ← HX1.out]; refine app_nat rfl _ _ 35 5 .u8 1 rfl Try.underlying35 info5 (by decide) w.heap.size u9 1 (byL x 1) rfl HOX.out B 0 1 1 [y] rfl rfl (one_cell HRW.out) (by decide) HCX.out.size ?_)
      intro v' w5 hx1 hx2
      have HC5 : Hid (Chg [] w w5) := Lib.hid (chg_grown HCX.out hx2 (fun x hx => (HOX.out.lt x hx).1))
      have HO5 : Hid (w5.ownsRow w.heap.size 5 1 v' 2 ((byL x 2).map fun x : Nat => Value.int .u8 (x : Int))) := Lib.hid (by
        rw [byL_succ, ← HY.out]; exact hx1)
      clear hx1 hx2
      go_wp2
      case roundEnd => exact ⟨⟨2, by decide, rfl, HO5.out, HC5.out⟩, by decide⟩
    · obtain ⟨q, c, rfl, hq⟩ := own_form HOW.out
      obtain ⟨g, rfl, hg⟩ := hq (by decide)
      have HG := Lib.hid hg
      clear hg hq hk
      go_wp2_with fail
      refine (rput_ok (n := 2) (HR.out.keep HCH.out (by simp) (by simp)) (g := byN x) (bb := g) (bo := 0) HA.out HO.out (fun _ => rfl) (by have h1 := HOW.out.lt g HG.out; have h2 := HR.out.mlt; omega) (fun j hj => ⟨by rw [Nat.zero_add]; exact cellsAt HOW.out HG.out j _ (by rw [List.getElem?_map, byL_get x 2 j hj]; rfl), Nat.mod_lt _ (by decide)⟩) HN.out).mono ?_
      rintro e w6 ⟨rfl, hr6, hc6⟩
      rw [putN_st] at hr6
      have HR6 := Lib.hid hr6
      have HC6 : Hid (Chg [m] w w6) := Lib.hid ((⟨HCH.out.os, HCH.out.tape, HCH.out.output, HCH.out.size, fun k hk _ => HCH.out.block k hk (by simp)⟩ : Chg [m] w wr).trans hc6)
      clear hr6 hc6
      go_wp2
      go_ret
      exact ⟨rfl, HR6.out, HC6.out⟩
set_option maxRecDepth 100000 in
set_option maxHeartbeats 1600000 in
theorem rstore_4 {w : World} {p m N : Nat} {f : Nat → Nat} {a o x : Nat} (hR : RamAt w p m N f) (ha : a = 2147483648 + o) (ho : o + 4 ≤ 65536) (hx : x < 4294967296) (hN : N < 1000000000) :
    Calls Try.prog 17 #[.pointer (some ⟨p, 0, none⟩), .int .i64 (a : Int), .int .i64 4, .int .i64 (x : Int)] w fun e w' => e = .returned (.bool true) ∧ RamAt w' p m (N + 4) (stN f o x 4) ∧ Chg [m] w w' := by
  have HR := Lib.hid hR
  have HA := Lib.hid ha
  have HO := Lib.hid ho
  have HX := Lib.hid hx
  have HN := Lib.hid hN
  clear hR ha ho hx hN
  go_enter Try.func17, Try.ntmps17
  go_wp2_with fail
  go_loopw [9, 10] (fun v i wr => ∃ k : Nat, k ≤ 4 ∧ i = .int .i64 (k : Int) ∧ wr.ownsRow w.heap.size 5 1 v k ((byL x k).map fun x : Nat => Value.int .u8 (x : Int)) ∧ Chg [] w wr) (fun _ i _ => 4 - (intOf i).toNat)
  case atStart => exact ⟨0, Nat.zero_le _, rfl, World.ownsRow_nil _ _ _ _, Chg.refl _ _⟩
  case round =>
    obtain ⟨k, hk, rfl, hown, hch⟩ := hrel
    have HOW := Lib.hid hown
    have HCH := Lib.hid hch
    clear hown hch
    obtain rfl | rfl | rfl | rfl | rfl : k = 0 ∨ k = 1 ∨ k = 2 ∨ k = 3 ∨ k = 4 := by omega
    · obtain ⟨y, hy⟩ : ∃ y, y = byN x 0 := ⟨_, rfl⟩
      have hv : (x : Int) % 256 = (y : Int) := by rw [hy, show byN x 0 = x / 1 % 256 from rfl]; omega
      obtain ⟨B, hB⟩ : ∃ B, B = wr.heap.size := ⟨_, rfl⟩
      obtain ⟨X, hX⟩ : ∃ X, X = wr.alloc (.cells #[.int .u8 (y : Int)] 5) := ⟨_, rfl⟩
      have hcX : Chg [] wr X := by rw [hX]; exact (Chg.refl _ _).alloc _
      have HCX : Hid (Chg [] w X) := Lib.hid (HCH.out.trans hcX)
      have HOX : Hid (X.ownsRow w.heap.size 5 1 u9 0 ((byL x 0).map fun x : Nat => Value.int .u8 (x : Int))) := Lib.hid (ownsRow_chg HOW.out hcX (by intro k _; simp))
      have HRW : Hid (X.row? B = some #[.int .u8 (y : Int)]) := Lib.hid (by rw [hX]; exact row_alloc_at _ _ _ _ hB)
      have HB := Lib.hid hB
      have HX1 := Lib.hid hX
      have HY := Lib.hid hy
      clear hy hB hX hcX hk
      go_wp2_with (at_builtin; rw [← HB.out, ← HX1.out]; refine app_nat rfl _ _ 35 5 .u8 1 rfl Try.underlying35 info5 (by decide) w.heap.size u9 0 (byL x 0) rfl HOX.out B 0 1 1 [y] rfl rfl (one_cell HRW.out) (by decide) HCX.out.size ?_)
      intro v' w5 hx1 hx2
      have HC5 : Hid (Chg [] w w5) := Lib.hid (chg_grown HCX.out hx2 (fun x hx => (HOX.out.lt x hx).1))
      have HO5 : Hid (w5.ownsRow w.heap.size 5 1 v' 1 ((byL x 1).map fun x : Nat => Value.int .u8 (x : Int))) := Lib.hid (by
        rw [byL_succ, ← HY.out]; exact hx1)
      clear hx1 hx2
      go_wp2
      case roundEnd => exact ⟨⟨1, by decide, rfl, HO5.out, HC5.out⟩, by decide⟩
    · obtain ⟨y, hy⟩ : ∃ y, y = byN x 1 := ⟨_, rfl⟩
      have hv : (x : Int) / 256 % 256 = (y : Int) := by rw [hy, show byN x 1 = x / 256 % 256 from rfl]; omega
      obtain ⟨B, hB⟩ : ∃ B, B = wr.heap.size := ⟨_, rfl⟩
      obtain ⟨X, hX⟩ : ∃ X, X = wr.alloc (.cells #[.int .u8 (y : Int)] 5) := ⟨_, rfl⟩
      have hcX : Chg [] wr X := by rw [hX]; exact (Chg.refl _ _).alloc _
      have HCX : Hid (Chg [] w X) := Lib.hid (HCH.out.trans hcX)
      have HOX : Hid (X.ownsRow w.heap.size 5 1 u9 1 ((byL x 1).map fun x : Nat => Value.int .u8 (x : Int))) := Lib.hid (ownsRow_chg HOW.out hcX (by intro k _; simp))
      have HRW : Hid (X.row? B = some #[.int .u8 (y : Int)]) := Lib.hid (by rw [hX]; exact row_alloc_at _ _ _ _ hB)
      have HB := Lib.hid hB
      have HX1 := Lib.hid hX
      have HY := Lib.hid hy
      clear hy hB hX hcX hk
      go_wp2_with (at_builtin; rw [← HB.out, ← HX1.out]; refine app_nat rfl _ _ 35 5 .u8 1 rfl Try.underlying35 info5 (by decide) w.heap.size u9 1 (byL x 1) rfl HOX.out B 0 1 1 [y] rfl rfl (one_cell HRW.out) (by decide) HCX.out.size ?_)
      intro v' w5 hx1 hx2
      have HC5 : Hid (Chg [] w w5) := Lib.hid (chg_grown HCX.out hx2 (fun x hx => (HOX.out.lt x hx).1))
      have HO5 : Hid (w5.ownsRow w.heap.size 5 1 v' 2 ((byL x 2).map fun x : Nat => Value.int .u8 (x : Int))) := Lib.hid (by
        rw [byL_succ, ← HY.out]; exact hx1)
      clear hx1 hx2
      go_wp2
      case roundEnd => exact ⟨⟨2, by decide, rfl, HO5.out, HC5.out⟩, by decide⟩
    · obtain ⟨y, hy⟩ : ∃ y, y = byN x 2 := ⟨_, rfl⟩
      have hv : (x : Int) / 65536 % 256 = (y : Int) := by rw [hy, show byN x 2 = x / 65536 % 256 from rfl]; omega
      obtain ⟨B, hB⟩ : ∃ B, B = wr.heap.size := ⟨_, rfl⟩
      obtain ⟨X, hX⟩ : ∃ X, X = wr.alloc (.cells #[.int .u8 (y : Int)] 5) := ⟨_, rfl⟩
      have hcX : Chg [] wr X := by rw [hX]; exact (Chg.refl _ _).alloc _
      have HCX : Hid (Chg [] w X) := Lib.hid (HCH.out.trans hcX)
      have HOX : Hid (X.ownsRow w.heap.size 5 1 u9 2 ((byL x 2).map fun x : Nat => Value.int .u8 (x : Int))) := Lib.hid (ownsRow_chg HOW.out hcX (by intro k _; simp))
      have HRW : Hid (X.row? B = some #[.int .u8 (y : Int)]) := Lib.hid (by rw [hX]; exact row_alloc_at _ _ _ _ hB)
      have HB := Lib.hid hB
      have HX1 := Lib.hid hX
      have HY := Lib.hid hy
      clear hy hB hX hcX hk
      go_wp2_with (at_builtin; rw [← HB.out, ← HX1.out]; refine app_nat rfl _ _ 35 5 .u8 1 rfl Try.underlying35 info5 (by decide) w.heap.size u9 2 (byL x 2) rfl HOX.out B 0 1 1 [y] rfl rfl (one_cell HRW.out) (by decide) HCX.out.size ?_)
      intro v' w5 hx1 hx2
      have HC5 : Hid (Chg [] w w5) := Lib.hid (chg_grown HCX.out hx2 (fun x hx => (HOX.out.lt x hx).1))
      have HO5 : Hid (w5.ownsRow w.heap.size 5 1 v' 3 ((byL x 3).map fun x : Nat => Value.int .u8 (x : Int))) := Lib.hid (by
        rw [byL_succ, ← HY.out]; exact hx1)
      clear hx1 hx2
      go_wp2
      case roundEnd => exact ⟨⟨3, by decide, rfl, HO5.out, HC5.out⟩, by decide⟩
    · obtain ⟨y, hy⟩ : ∃ y, y = byN x 3 := ⟨_, rfl⟩
      have hv : (x : Int) / 16777216 % 256 = (y : Int) := by rw [hy, show byN x 3 = x / 16777216 % 256 from rfl]; omega
      obtain ⟨B, hB⟩ : ∃ B, B = wr.heap.size := ⟨_, rfl⟩
      obtain ⟨X, hX⟩ : ∃ X, X = wr.alloc (.cells #[.int .u8 (y : Int)] 5) := ⟨_, rfl⟩
      have hcX : Chg [] wr X := by rw [hX]; exact (Chg.refl _ _).alloc _
      have HCX : Hid (Chg [] w X) := Lib.hid (HCH.out.trans hcX)
      have HOX : Hid (X.ownsRow w.heap.size 5 1 u9 3 ((byL x 3).map fun x : Nat => Value.int .u8 (x : Int))) := Lib.hid (ownsRow_chg HOW.out hcX (by intro k _; simp))
      have HRW : Hid (X.row? B = some #[.int .u8 (y : Int)]) := Lib.hid (by rw [hX]; exact row_alloc_at _ _ _ _ hB)
      have HB := Lib.hid hB
      have HX1 := Lib.hid hX
      have HY := Lib.hid hy
      clear hy hB hX hcX hk
      go_wp2_with (at_builtin; rw [← HB.out, ← HX1.out]; refine app_nat rfl _ _ 35 5 .u8 1 rfl Try.underlying35 info5 (by decide) w.heap.size u9 3 (byL x 3) rfl HOX.out B 0 1 1 [y] rfl rfl (one_cell HRW.out) (by decide) HCX.out.size ?_)
      intro v' w5 hx1 hx2
      have HC5 : Hid (Chg [] w w5) := Lib.hid (chg_grown HCX.out hx2 (fun x hx => (HOX.out.lt x hx).1))
      have HO5 : Hid (w5.ownsRow w.heap.size 5 1 v' 4 ((byL x 4).map fun x : Nat => Value.int .u8 (x : Int))) := Lib.hid (by
        rw [byL_succ, ← HY.out]; exact hx1)
      clear hx1 hx2
      go_wp2
      case roundEnd => exact ⟨⟨4, by decide, rfl, HO5.out, HC5.out⟩, by decide⟩
    · obtain ⟨q, c, rfl, hq⟩ := own_form HOW.out
      obtain ⟨g, rfl, hg⟩ := hq (by decide)
      have HG := Lib.hid hg
      clear hg hq hk
      go_wp2_with fail
      refine (rput_ok (n := 4) (HR.out.keep HCH.out (by simp) (by simp)) (g := byN x) (bb := g) (bo := 0) HA.out HO.out (fun _ => rfl) (by have h1 := HOW.out.lt g HG.out; have h2 := HR.out.mlt; omega) (fun j hj => ⟨by rw [Nat.zero_add]; exact cellsAt HOW.out HG.out j _ (by rw [List.getElem?_map, byL_get x 4 j hj]; rfl), Nat.mod_lt _ (by decide)⟩) HN.out).mono ?_
      rintro e w6 ⟨rfl, hr6, hc6⟩
      rw [putN_st] at hr6
      have HR6 := Lib.hid hr6
      have HC6 : Hid (Chg [m] w w6) := Lib.hid ((⟨HCH.out.os, HCH.out.tape, HCH.out.output, HCH.out.size, fun k hk _ => HCH.out.block k hk (by simp)⟩ : Chg [m] w wr).trans hc6)
      clear hr6 hc6
      go_wp2
      go_ret
      exact ⟨rfl, HR6.out, HC6.out⟩
theorem rstore_ok {w : World} {p m N : Nat} {f : Nat → Nat} {a o n x : Nat} (hR : RamAt w p m N f) (ha : a = 2147483648 + o) (hn : n = 1 ∨ n = 2 ∨ n = 4) (ho : o + n ≤ 65536) (hx : x < 4294967296) (hN : N < 1000000000) :
    Calls Try.prog 17 #[.pointer (some ⟨p, 0, none⟩), .int .i64 (a : Int), .int .i64 (n : Int), .int .i64 (x : Int)] w fun e w' => e = .returned (.bool true) ∧ RamAt w' p m (N + n) (stN f o x n) ∧ Chg [m] w w' := by
  rcases hn with rfl | rfl | rfl
  · exact rstore_1 hR ha ho hx hN
  · exact rstore_2 hR ha ho hx hN
  · exact rstore_4 hR ha ho hx hN
end Go.Proofs.L
