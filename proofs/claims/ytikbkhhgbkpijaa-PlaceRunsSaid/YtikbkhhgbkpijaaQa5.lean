/- Proved here: lemmas and contracts (Qa5) for the laws of this seat, for all values of the stated types; no further condition. -/
import Derived.Test.YtikbkhhgbkpijaaQa4
open Go Go.RowKit Go.Lib Go.Maps
namespace Go.Proofs.L
attribute [local irreducible] wpT
/-! the reference's Load -/
def revN (f : Nat → Nat) (o n : Nat) : Nat → Nat
  | 0 => 0
  | t + 1 => revN f o n t * 256 + f (o + (n - 1 - t))
theorem revN_lt (f : Nat → Nat) (hf : ∀ i, f i < 256) (o n : Nat) : ∀ t, t ≤ 4 → revN f o n t < 4294967296 / 256 ^ (4 - t)
  | 0, _ => show (0 : Nat) < 1 by decide
  | 1, _ => by have := hf (o + (n - 1 - 0)); simp only [revN]; omega
  | 2, _ => by have := hf (o + (n - 1 - 0)); have := hf (o + (n - 1 - 1)); simp only [revN]; omega
  | 3, _ => by have := hf (o + (n - 1 - 0)); have := hf (o + (n - 1 - 1)); have := hf (o + (n - 1 - 2)); simp only [revN]; omega
  | 4, _ => by have := hf (o + (n - 1 - 0)); have := hf (o + (n - 1 - 1)); have := hf (o + (n - 1 - 2)); have := hf (o + (n - 1 - 3)); simp only [revN]; omega
theorem revN_le (f : Nat → Nat) (o n : Nat) (hn : n = 1 ∨ n = 2 ∨ n = 4) : revN f o n n = leN f o n := by
  rcases hn with rfl | rfl | rfl
  · show 0 * 256 + f (o + 0) = 0 + f (o + 0) * 1
    omega
  · show (0 * 256 + f (o + 1)) * 256 + f (o + 0) = 0 + f (o + 0) * 1 + f (o + 1) * 256
    omega
  · show (((0 * 256 + f (o + 3)) * 256 + f (o + 2)) * 256 + f (o + 1)) * 256 + f (o + 0) = 0 + f (o + 0) * 1 + f (o + 1) * 256 + f (o + 2) * 65536 + f (o + 3) * 16777216
    omega
theorem rl_w (f : Nat → Nat) (hf : ∀ i, f i < 256) (r y : Nat) (hr : r < 16777216) (hy : y < 256) : wrap64 (r : Int) = (r : Int) ∧ wrap64 (y : Int) = (y : Int) ∧ wrap64 ((r : Int) * 256) = (r : Int) * 256 ∧ wrap64 ((r : Int) * 256 + (y : Int)) = (r : Int) * 256 + (y : Int) := by
  refine ⟨?_, ?_, ?_, ?_⟩ <;> rw [IntWalk.wrap64_in _ ⟨by omega, by omega⟩]
set_option maxRecDepth 100000 in
set_option maxHeartbeats 1600000 in
theorem rload_1 {w : World} {p m N : Nat} {f : Nat → Nat} {a o : Nat} (hR : RamAt w p m N f) (hf : ∀ i, f i < 256) (ha : a = 2147483648 + o) (ho : o + 1 ≤ 65536) :
    Calls Try.prog 16 #[.pointer (some ⟨p, 0, none⟩), .int .i64 (a : Int), .int .i64 1] w fun e w' => e = .returned (.tuple #[.int .i64 (leN f o 1 : Int), .bool true]) ∧ Chg [] w w' := by
  have HR := Lib.hid hR
  have HA := Lib.hid ha
  have HO := Lib.hid ho
  have HF := Lib.hid hf
  clear hR ha ho hf
  go_enter Try.func16, Try.ntmps16
  go_wp2_with fail
  refine (rget_ok (n := 1) HR.out HA.out HO.out).mono ?_
  rintro e w1 ⟨v, rfl, how, hc1⟩
  obtain ⟨q, cp, rfl, hq⟩ := own_form how
  obtain ⟨g, rfl, hg⟩ := hq (by decide)
  have HOW := Lib.hid how
  have HG := Lib.hid hg
  have HC1 := Lib.hid hc1
  clear how hg hc1 hq
  go_wp2_with fail
  go_loopw [10, 11] (fun v i wr => ∃ t : Nat, t ≤ 1 ∧ i = .int .i64 (0 - (t : Int)) ∧ v = .int .i64 (revN f o 1 t : Int) ∧ Chg [] w1 wr) (fun _ i _ => (1 + match i with | .int _ x => x | _ => 0 : Int).toNat)
  case atStart => exact ⟨0, Nat.zero_le _, rfl, rfl, Chg.refl _ _⟩
  case round =>
    obtain ⟨t, ht, rfl, rfl, hch⟩ := hrel
    have HCH := Lib.hid hch
    clear hch
    obtain rfl | rfl : t = 0 ∨ t = 1 := by omega
    · obtain ⟨y, hy⟩ : ∃ y, y = f (o + 0) := ⟨_, rfl⟩
      obtain ⟨r, hr⟩ : ∃ r, r = revN f o 1 0 := ⟨_, rfl⟩
      have hcl : wr.cell? ⟨g, 0, none⟩ = some (.int .u8 (y : Int)) := cell_keep (cellsAt HOW.out HG.out 0 _ (by unfold u8L; rw [List.getElem?_map, gtL_get f o 1 0 (by decide), ← hy]; rfl)) HCH.out (by simp)
      have HE : Hid (r * 256 + y = revN f o 1 1) := Lib.hid (by rw [hr, hy]; rfl)
      have hrl : r < 16777216 := by
        have := revN_lt f HF.out o 1 0 (by decide)
        rw [← hr] at this
        exact Nat.lt_of_lt_of_le this (by decide)
      obtain ⟨e1, e2, e3, e4⟩ := rl_w f HF.out r y hrl (by rw [hy]; exact HF.out _)
      rw [← hr]
      clear hy hr hrl ht
      go_wp2
      case roundEnd => exact ⟨⟨1, by decide, rfl, by rw [← HE.out, Int.natCast_add, Int.natCast_mul, e4]; rfl, HCH.out⟩, by decide⟩
    · have HL := Lib.hid (revN_le f o 1 (by decide))
      obtain ⟨r, hr⟩ : ∃ r, r = revN f o 1 1 := ⟨_, rfl⟩
      rw [← hr] at HL ⊢
      clear hr ht
      go_wp2
      go_ret2
      exact ⟨by rw [HL.out]; rfl, HC1.out.trans HCH.out⟩
set_option maxRecDepth 100000 in
set_option maxHeartbeats 1600000 in
theorem rload_2 {w : World} {p m N : Nat} {f : Nat → Nat} {a o : Nat} (hR : RamAt w p m N f) (hf : ∀ i, f i < 256) (ha : a = 2147483648 + o) (ho : o + 2 ≤ 65536) :
    Calls Try.prog 16 #[.pointer (some ⟨p, 0, none⟩), .int .i64 (a : Int), .int .i64 2] w fun e w' => e = .returned (.tuple #[.int .i64 (leN f o 2 : Int), .bool true]) ∧ Chg [] w w' := by
  have HR := Lib.hid hR
  have HA := Lib.hid ha
  have HO := Lib.hid ho
  have HF := Lib.hid hf
  clear hR ha ho hf
  go_enter Try.func16, Try.ntmps16
  go_wp2_with fail
  refine (rget_ok (n := 2) HR.out HA.out HO.out).mono ?_
  rintro e w1 ⟨v, rfl, how, hc1⟩
  obtain ⟨q, cp, rfl, hq⟩ := own_form how
  obtain ⟨g, rfl, hg⟩ := hq (by decide)
  have HOW := Lib.hid how
  have HG := Lib.hid hg
  have HC1 := Lib.hid hc1
  clear how hg hc1 hq
  go_wp2_with fail
  go_loopw [10, 11] (fun v i wr => ∃ t : Nat, t ≤ 2 ∧ i = .int .i64 (1 - (t : Int)) ∧ v = .int .i64 (revN f o 2 t : Int) ∧ Chg [] w1 wr) (fun _ i _ => (1 + match i with | .int _ x => x | _ => 0 : Int).toNat)
  case atStart => exact ⟨0, Nat.zero_le _, rfl, rfl, Chg.refl _ _⟩
  case round =>
    obtain ⟨t, ht, rfl, rfl, hch⟩ := hrel
    have HCH := Lib.hid hch
    clear hch
    obtain rfl | rfl | rfl : t = 0 ∨ t = 1 ∨ t = 2 := by omega
    · obtain ⟨y, hy⟩ : ∃ y, y = f (o + 1) := ⟨_, rfl⟩
      obtain ⟨r, hr⟩ : ∃ r, r = revN f o 2 0 := ⟨_, rfl⟩
      have hcl : wr.cell? ⟨g, 1, none⟩ = some (.int .u8 (y : Int)) := cell_keep (cellsAt HOW.out HG.out 1 _ (by unfold u8L; rw [List.getElem?_map, gtL_get f o 2 1 (by decide), ← hy]; rfl)) HCH.out (by simp)
      have HE : Hid (r * 256 + y = revN f o 2 1) := Lib.hid (by rw [hr, hy]; rfl)
      have hrl : r < 16777216 := by
        have := revN_lt f HF.out o 2 0 (by decide)
        rw [← hr] at this
        exact Nat.lt_of_lt_of_le this (by decide)
      obtain ⟨e1, e2, e3, e4⟩ := rl_w f HF.out r y hrl (by rw [hy]; exact HF.out _)
      rw [← hr]
      clear hy hr hrl ht
      go_wp2
      case roundEnd => exact ⟨⟨1, by decide, rfl, by rw [← HE.out, Int.natCast_add, Int.natCast_mul, e4]; rfl, HCH.out⟩, by decide⟩
    · obtain ⟨y, hy⟩ : ∃ y, y = f (o + 0) := ⟨_, rfl⟩
      obtain ⟨r, hr⟩ : ∃ r, r = revN f o 2 1 := ⟨_, rfl⟩
      have hcl : wr.cell? ⟨g, 0, none⟩ = some (.int .u8 (y : Int)) := cell_keep (cellsAt HOW.out HG.out 0 _ (by unfold u8L; rw [List.getElem?_map, gtL_get f o 2 0 (by decide), ← hy]; rfl)) HCH.out (by simp)
      have HE : Hid (r * 256 + y = revN f o 2 2) := Lib.hid (by rw [hr, hy]; rfl)
      have hrl : r < 16777216 := by
        have := revN_lt f HF.out o 2 1 (by decide)
        rw [← hr] at this
        exact Nat.lt_of_lt_of_le this (by decide)
      obtain ⟨e1, e2, e3, e4⟩ := rl_w f HF.out r y hrl (by rw [hy]; exact HF.out _)
      rw [← hr]
      clear hy hr hrl ht
      go_wp2
      case roundEnd => exact ⟨⟨2, by decide, rfl, by rw [← HE.out, Int.natCast_add, Int.natCast_mul, e4]; rfl, HCH.out⟩, by decide⟩
    · have HL := Lib.hid (revN_le f o 2 (by decide))
      obtain ⟨r, hr⟩ : ∃ r, r = revN f o 2 2 := ⟨_, rfl⟩
      rw [← hr] at HL ⊢
      clear hr ht
      go_wp2
      go_ret2
      exact ⟨by rw [HL.out]; rfl, HC1.out.trans HCH.out⟩
set_option maxRecDepth 100000 in
set_option maxHeartbeats 1600000 in
theorem rload_4 {w : World} {p m N : Nat} {f : Nat → Nat} {a o : Nat} (hR : RamAt w p m N f) (hf : ∀ i, f i < 256) (ha : a = 2147483648 + o) (ho : o + 4 ≤ 65536) :
    Calls Try.prog 16 #[.pointer (some ⟨p, 0, none⟩), .int .i64 (a : Int), .int .i64 4] w fun e w' => e = .returned (.tuple #[.int .i64 (leN f o 4 : Int), .bool true]) ∧ Chg [] w w' := by
  have HR := Lib.hid hR
  have HA := Lib.hid ha
  have HO := Lib.hid ho
  have HF := Lib.hid hf
  clear hR ha ho hf
  go_enter Try.func16, Try.ntmps16
  go_wp2_with fail
  refine (rget_ok (n := 4) HR.out HA.out HO.out).mono ?_
  rintro e w1 ⟨v, rfl, how, hc1⟩
  obtain ⟨q, cp, rfl, hq⟩ := own_form how
  obtain ⟨g, rfl, hg⟩ := hq (by decide)
  have HOW := Lib.hid how
  have HG := Lib.hid hg
  have HC1 := Lib.hid hc1
  clear how hg hc1 hq
  go_wp2_with fail
  go_loopw [10, 11] (fun v i wr => ∃ t : Nat, t ≤ 4 ∧ i = .int .i64 (3 - (t : Int)) ∧ v = .int .i64 (revN f o 4 t : Int) ∧ Chg [] w1 wr) (fun _ i _ => (1 + match i with | .int _ x => x | _ => 0 : Int).toNat)
  case atStart => exact ⟨0, Nat.zero_le _, rfl, rfl, Chg.refl _ _⟩
  case round =>
    obtain ⟨t, ht, rfl, rfl, hch⟩ := hrel
    have HCH := Lib.hid hch
    clear hch
    obtain rfl | rfl | rfl | rfl | rfl : t = 0 ∨ t = 1 ∨ t = 2 ∨ t = 3 ∨ t = 4 := by omega
    · obtain ⟨y, hy⟩ : ∃ y, y = f (o + 3) := ⟨_, rfl⟩
      obtain ⟨r, hr⟩ : ∃ r, r = revN f o 4 0 := ⟨_, rfl⟩
      have hcl : wr.cell? ⟨g, 3, none⟩ = some (.int .u8 (y : Int)) := cell_keep (cellsAt HOW.out HG.out 3 _ (by unfold u8L; rw [List.getElem?_map, gtL_get f o 4 3 (by decide), ← hy]; rfl)) HCH.out (by simp)
      have HE : Hid (r * 256 + y = revN f o 4 1) := Lib.hid (by rw [hr, hy]; rfl)
      have hrl : r < 16777216 := by
        have := revN_lt f HF.out o 4 0 (by decide)
        rw [← hr] at this
        exact Nat.lt_of_lt_of_le this (by decide)
      obtain ⟨e1, e2, e3, e4⟩ := rl_w f HF.out r y hrl (by rw [hy]; exact HF.out _)
      rw [← hr]
      clear hy hr hrl ht
      go_wp2
      case roundEnd => exact ⟨⟨1, by decide, rfl, by rw [← HE.out, Int.natCast_add, Int.natCast_mul, e4]; rfl, HCH.out⟩, by decide⟩
    · obtain ⟨y, hy⟩ : ∃ y, y = f (o + 2) := ⟨_, rfl⟩
      obtain ⟨r, hr⟩ : ∃ r, r = revN f o 4 1 := ⟨_, rfl⟩
      have hcl : wr.cell? ⟨g, 2, none⟩ = some (.int .u8 (y : Int)) := cell_keep (cellsAt HOW.out HG.out 2 _ (by unfold u8L; rw [List.getElem?_map, gtL_get f o 4 2 (by decide), ← hy]; rfl)) HCH.out (by simp)
      have HE : Hid (r * 256 + y = revN f o 4 2) := Lib.hid (by rw [hr, hy]; rfl)
      have hrl : r < 16777216 := by
        have := revN_lt f HF.out o 4 1 (by decide)
        rw [← hr] at this
        exact Nat.lt_of_lt_of_le this (by decide)
      obtain ⟨e1, e2, e3, e4⟩ := rl_w f HF.out r y hrl (by rw [hy]; exact HF.out _)
      rw [← hr]
      clear hy hr hrl ht
      go_wp2
      case roundEnd => exact ⟨⟨2, by decide, rfl, by rw [← HE.out, Int.natCast_add, Int.natCast_mul, e4]; rfl, HCH.out⟩, by decide⟩
    · obtain ⟨y, hy⟩ : ∃ y, y = f (o + 1) := ⟨_, rfl⟩
      obtain ⟨r, hr⟩ : ∃ r, r = revN f o 4 2 := ⟨_, rfl⟩
      have hcl : wr.cell? ⟨g, 1, none⟩ = some (.int .u8 (y : Int)) := cell_keep (cellsAt HOW.out HG.out 1 _ (by unfold u8L; rw [List.getElem?_map, gtL_get f o 4 1 (by decide), ← hy]; rfl)) HCH.out (by simp)
      have HE : Hid (r * 256 + y = revN f o 4 3) := Lib.hid (by rw [hr, hy]; rfl)
      have hrl : r < 16777216 := by
        have := revN_lt f HF.out o 4 2 (by decide)
        rw [← hr] at this
        exact Nat.lt_of_lt_of_le this (by decide)
      obtain ⟨e1, e2, e3, e4⟩ := rl_w f HF.out r y hrl (by rw [hy]; exact HF.out _)
      rw [← hr]
      clear hy hr hrl ht
      go_wp2
      case roundEnd => exact ⟨⟨3, by decide, rfl, by rw [← HE.out, Int.natCast_add, Int.natCast_mul, e4]; rfl, HCH.out⟩, by decide⟩
    · obtain ⟨y, hy⟩ : ∃ y, y = f (o + 0) := ⟨_, rfl⟩
      obtain ⟨r, hr⟩ : ∃ r, r = revN f o 4 3 := ⟨_, rfl⟩
      have hcl : wr.cell? ⟨g, 0, none⟩ = some (.int .u8 (y : Int)) := cell_keep (cellsAt HOW.out HG.out 0 _ (by unfold u8L; rw [List.getElem?_map, gtL_get f o 4 0 (by decide), ← hy]; rfl)) HCH.out (by simp)
      have HE : Hid (r * 256 + y = revN f o 4 4) := Lib.hid (by rw [hr, hy]; rfl)
      have hrl : r < 16777216 := by
        have := revN_lt f HF.out o 4 3 (by decide)
        rw [← hr] at this
        exact Nat.lt_of_lt_of_le this (by decide)
      obtain ⟨e1, e2, e3, e4⟩ := rl_w f HF.out r y hrl (by rw [hy]; exact HF.out _)
      rw [← hr]
      clear hy hr hrl ht
      go_wp2
      case roundEnd => exact ⟨⟨4, by decide, rfl, by rw [← HE.out, Int.natCast_add, Int.natCast_mul, e4]; rfl, HCH.out⟩, by decide⟩
    · have HL := Lib.hid (revN_le f o 4 (by decide))
      obtain ⟨r, hr⟩ : ∃ r, r = revN f o 4 4 := ⟨_, rfl⟩
      rw [← hr] at HL ⊢
      clear hr ht
      go_wp2
      go_ret2
      exact ⟨by rw [HL.out]; rfl, HC1.out.trans HCH.out⟩
theorem rload_ok {w : World} {p m N : Nat} {f : Nat → Nat} {a o n : Nat} (hR : RamAt w p m N f) (hf : ∀ i, f i < 256) (ha : a = 2147483648 + o) (hn : n = 1 ∨ n = 2 ∨ n = 4) (ho : o + n ≤ 65536) :
    Calls Try.prog 16 #[.pointer (some ⟨p, 0, none⟩), .int .i64 (a : Int), .int .i64 (n : Int)] w fun e w' => e = .returned (.tuple #[.int .i64 (leN f o n : Int), .bool true]) ∧ Chg [] w w' := by
  rcases hn with rfl | rfl | rfl
  · exact rload_1 hR hf ha ho
  · exact rload_2 hR hf ha ho
  · exact rload_4 hR hf ha ho
end Go.Proofs.L
