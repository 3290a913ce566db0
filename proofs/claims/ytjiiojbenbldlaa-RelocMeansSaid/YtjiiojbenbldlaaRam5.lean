/- Proved here: lemmas and contracts (Ram5) for the laws of this seat, for all values of the stated types; no further condition. -/
import Derived.Test.YtjiiojbenbldlaaRam3
open Go Go.RowKit Go.Lib Go.Maps
namespace Go.Proofs.L
attribute [local irreducible] wpT
/-! the reference's Get -/
def gtL (f : Nat → Nat) (o k : Nat) : List Nat := (List.range k).map fun j => f (o + j)
theorem gtL_succ (f : Nat → Nat) (o k : Nat) : gtL f o (k + 1) = gtL f o k ++ [f (o + k)] := by unfold gtL; rw [List.range_succ, List.map_append]; rfl
theorem gtL_get (f : Nat → Nat) (o k j : Nat) (h : j < k) : (gtL f o k)[j]? = some (f (o + j)) := by unfold gtL; simp [h]
def u8L (L : List Nat) : List Value := L.map fun x : Nat => Value.int .u8 (x : Int)
set_option maxRecDepth 100000 in
set_option maxHeartbeats 1600000 in
theorem rget_ok {w : World} {p m N : Nat} {f : Nat → Nat} {a o n : Nat} (hR : RamAt w p m N f) (ha : a = 2147483648 + o) (ho : o + n ≤ 65536) :
    Calls Try.prog 47 #[.pointer (some ⟨p, 0, none⟩), .int .i64 (a : Int), .int .i64 (n : Int)] w fun e w' => ∃ v, e = .returned (.tuple #[v, .bool true]) ∧ w'.ownsRow w.heap.size 5 1 v n (u8L (gtL f o n)) ∧ Chg [] w w' := by
  have HHas := Lib.hid (rhas_any a n (by omega) (by omega) w)
  rw [show inRam a n = true from decide_eq_true (by omega)] at HHas
  have HR := Lib.hid hR
  have HA := Lib.hid ha
  have HO := Lib.hid ho
  clear hR ha ho
  go_enter Try.func47, Try.ntmps47
  go_wp2_with fail
  refine HHas.out.mono ?_
  rintro e w' ⟨rfl, hw⟩
  obtain rfl := hw.symm
  clear hw HHas
  go_wp2_with fail
  go_loopw [8, 9] (fun v i wr => ∃ k : Nat, k ≤ n ∧ i = .int .i64 (k : Int) ∧ wr.ownsRow w.heap.size 5 1 v k (u8L (gtL f o k)) ∧ Chg [] w wr) (fun _ i _ => n - (intOf i).toNat)
  case atStart => exact ⟨0, Nat.zero_le _, rfl, World.ownsRow_nil _ _ _ _, Chg.refl _ _⟩
  case round =>
    obtain ⟨k, hk, rfl, hown, hch⟩ := hrel
    have HK := Lib.hid hk
    have HOW := Lib.hid hown
    have HCH := Lib.hid hch
    clear hown hch hk
    by_cases hkn : k < n
    · have HKN := Lib.hid hkn
      have dI : (k : Int) < (n : Int) := by omega
      have C2 : wr.cell? ⟨p, 0, none⟩ = some (.map (some m)) := by rw [row_cell (HR.out.keep HCH.out (by simp) (by simp)).row]; rfl
      have HW : Hid (wrap64 ((k : Int) + 1) = ((k + 1 : Nat) : Int)) := Lib.hid (by have := HO.out; exact wrap1 k (by omega))
      obtain ⟨q, hq⟩ : ∃ q, q = a + k := ⟨_, rfl⟩
      have wq : wrap64 ((a : Int) + (k : Int)) = (q : Int) := by have := HO.out; have := HA.out; rw [IntWalk.wrap64_in _ ⟨by omega, by omega⟩]; omega
      have HQ : Hid (q = 2147483648 + (o + k)) := Lib.hid (by have := HA.out; omega)
      obtain ⟨D, hmo, hf⟩ := (HR.out.keep HCH.out (by simp) (by simp)).own
      have HMO := Lib.hid hmo
      have HF := Lib.hid hf
      have HKEY : Hid (keyOf Try.prog 3 (.int .i64 (wrap64 ((a : Int) + (k : Int)))) = some (.int .i64 (q : Int))) := Lib.hid (by rw [wq]; exact keyOf_int_mk Try.underlying3 (by have := HQ.out; have := HO.out; simp [Lit.wf, IntKind.min, IntKind.max, IntKind.signed, IntKind.bits]; omega))
      clear hq hmo hf hkn
      go_wp2_with (at_lookup; refine wpList_lookup_own_int (H := Unit) _ rfl _ _ 84 rfl 3 5 .u8 kd3 Try.underlying84 Try.underlying5 (ze5 _) m N D rfl HMO.out _ _ rfl HKEY.out ?_)
      intro c hat hwc
      obtain ⟨y, hy⟩ : ∃ y, y = f (o + k) := ⟨_, rfl⟩
      have hc : c = (y : Int) := by
        have h1 := HF.out.at_ (o + k) (by have := HKN.out; have := HO.out; omega)
        have e : keyN (o + k) = .int .i64 (q : Int) := by unfold keyN; rw [HQ.out]
        rw [e, hat, ← hy] at h1
        injection h1 with h1
        injection h1
      subst hc
      obtain ⟨B, hB⟩ : ∃ B, B = wr.heap.size := ⟨_, rfl⟩
      obtain ⟨X, hX⟩ : ∃ X, X = wr.alloc (.cells #[.int .u8 (y : Int)] 5) := ⟨_, rfl⟩
      have hcX : Chg [] wr X := by rw [hX]; exact (Chg.refl _ _).alloc _
      have HCX : Hid (Chg [] w X) := Lib.hid (HCH.out.trans hcX)
      have HOX : Hid (X.ownsRow w.heap.size 5 1 u8 k ((gtL f o k).map fun x : Nat => Value.int .u8 (x : Int))) := Lib.hid (ownsRow_chg HOW.out hcX (by intro k _; simp))
      have HRW : Hid (X.row? B = some #[.int .u8 (y : Int)]) := Lib.hid (by rw [hX]; exact row_alloc_at _ _ _ _ hB)
      have HB := Lib.hid hB
      have HX1 := Lib.hid hX
      have HY := Lib.hid hy
      clear hy hB hX hcX hat hwc C2
      go_wp2_with (at_builtin; rw [← HB.out, ← HX1.out]; refine app_nat rfl _ _ 81 5 .u8 1 rfl Try.underlying81 info5 (by decide) w.heap.size u8 k (gtL f o k) rfl HOX.out B 0 1 1 [y] rfl rfl (one_cell HRW.out) (by have := HKN.out; have := HO.out; omega) HCX.out.size ?_)
      intro v' w5 hx1 hx2
      have HC5 : Hid (Chg [] w w5) := Lib.hid (chg_grown HCX.out hx2 (fun x hx => (HOX.out.lt x hx).1))
      have HO5 : Hid (w5.ownsRow w.heap.size 5 1 v' (k + 1) (u8L (gtL f o (k + 1)))) := Lib.hid (by
        unfold u8L; rw [gtL_succ, List.map_append, ← HY.out]; exact hx1)
      clear hx1 hx2
      go_wp2
      case roundEnd => exact ⟨⟨k + 1, HKN.out, by rw [HW.out], HO5.out, HC5.out⟩, by rw [HW.out]; simp only [intOf, Int.toNat_natCast]; have := HKN.out; omega⟩
    · have dI : ¬ (k : Int) < (n : Int) := by omega
      have hkn2 : k = n := by have := HK.out; omega
      subst hkn2
      clear hkn
      go_wp2
      go_ret2
      exact ⟨_, rfl, HOW.out, HCH.out⟩
theorem rget_bad {w : World} {v : Value} {n a : Nat} (ha : a < 8589934592) (hn : n < 8589934592) (h : inRam a n = false) : Calls Try.prog 47 #[v, .int .i64 (a : Int), .int .i64 (n : Int)] w fun e w' => e = .returned (.tuple #[.slice none 0 0, .bool false]) ∧ w' = w := by
  have HHas := Lib.hid (rhas_any a n ha hn w)
  rw [h] at HHas
  clear ha hn h
  go_enter Try.func47, Try.ntmps47
  go_wp2_with fail
  refine HHas.out.mono ?_
  rintro e w' ⟨rfl, hw⟩
  obtain rfl := hw.symm
  go_wp2
  go_ret2
  exact ⟨rfl, rfl⟩
end Go.Proofs.L

open Go Go.RowKit Go.Lib Go.Maps
namespace Go.Proofs.L
attribute [local irreducible] wpT
/-! the reference's Load -/
def revN (f : Nat → Nat) (o n : Nat) : Nat → Nat
  | 0 => 0
  | t + 1 => revN f o n t * 256 + f (o + (n - 1 - t))
theorem revN_lt (f : Nat → Nat) (hf : ∀ i, f i < 256) (o n : Nat) : ∀ t, t ≤ 4 → revN f o n t < 4294967296 / 256 ^ (4 - t)
  | 0, _ => show (0 : Nat) < 1 by decide
  | 1, _ => by have := hf (o + (n - 1 - 0)); simp only [revN]; omega
  | 2, _ => by have := hf (o + (n - 1 - 0)); have := hf (o + (n - 1 - 1)); simp only [revN]; omega
  | 3, _ => by have := hf (o + (n - 1 - 0)); have := hf (o + (n - 1 - 1)); have := hf (o + (n - 1 - 2)); simp only [revN]; omega
  | 4, _ => by have := hf (o + (n - 1 - 0)); have := hf (o + (n - 1 - 1)); have := hf (o + (n - 1 - 2)); have := hf (o + (n - 1 - 3)); simp only [revN]; omega
theorem revN_le (f : Nat → Nat) (o n : Nat) (hn : n = 1 ∨ n = 2 ∨ n = 4) : revN f o n n = leN f o n := by
  rcases hn with rfl | rfl | rfl
  · show 0 * 256 + f (o + 0) = 0 + f (o + 0) * 1
    omega
  · show (0 * 256 + f (o + 1)) * 256 + f (o + 0) = 0 + f (o + 0) * 1 + f (o + 1) * 256
    omega
  · show (((0 * 256 + f (o + 3)) * 256 + f (o + 2)) * 256 + f (o + 1)) * 256 + f (o + 0) = 0 + f (o + 0) * 1 + f (o + 1) * 256 + f (o + 2) * 65536 + f (o + 3) * 16777216
    omega
theorem rl_w (f : Nat → Nat) (hf : ∀ i, f i < 256) (r y : Nat) (hr : r < 16777216) (hy : y < 256) : wrap64 (r : Int) = (r : Int) ∧ wrap64 (y : Int) = (y : Int) ∧ wrap64 ((r : Int) * 256) = (r : Int) * 256 ∧ wrap64 ((r : Int) * 256 + (y : Int)) = (r : Int) * 256 + (y : Int) := by
  refine ⟨?_, ?_, ?_, ?_⟩ <;> rw [IntWalk.wrap64_in _ ⟨by omega, by omega⟩]
set_option maxRecDepth 100000 in
set_option maxHeartbeats 1600000 in
theorem rload_1 {w : World} {p m N : Nat} {f : Nat → Nat} {a o : Nat} (hR : RamAt w p m N f) (hf : ∀ i, f i < 256) (ha : a = 2147483648 + o) (ho : o + 1 ≤ 65536) :
    Calls Try.prog 31 #[.pointer (some ⟨p, 0, none⟩), .int .i64 (a : Int), .int .i64 1] w fun e w' => e = .returned (.tuple #[.int .i64 (leN f o 1 : Int), .bool true]) ∧ Chg [] w w' := by
  have HR := Lib.hid hR
  have HA := Lib.hid ha
  have HO := Lib.hid ho
  have HF := Lib.hid hf
  clear hR ha ho hf
  go_enter Try.func31, Try.ntmps31
  go_wp2_with fail
  refine (rget_ok (n := 1) HR.out HA.out HO.out).mono ?_
  rintro e w1 ⟨v, rfl, how, hc1⟩
  obtain ⟨q, cp, rfl, hq⟩ := own_form how
  obtain ⟨g, rfl, hg⟩ := hq (by decide)
  have HOW := Lib.hid how
  have HG := Lib.hid hg
  have HC1 := Lib.hid hc1
  clear how hg hc1 hq
  go_wp2_with fail
  go_loopw [10, 11] (fun v i wr => ∃ t : Nat, t ≤ 1 ∧ i = .int .i64 (0 - (t : Int)) ∧ v = .int .i64 (revN f o 1 t : Int) ∧ Chg [] w1 wr) (fun _ i _ => (1 + match i with | .int _ x => x | _ => 0 : Int).toNat)
  case atStart => exact ⟨0, Nat.zero_le _, rfl, rfl, Chg.refl _ _⟩
  case round =>
    obtain ⟨t, ht, rfl, rfl, hch⟩ := hrel
    have HCH := Lib.hid hch
    clear hch
    obtain rfl | rfl : t = 0 ∨ t = 1 := by omega
    · obtain ⟨y, hy⟩ : ∃ y, y = f (o + 0) := ⟨_, rfl⟩
      obtain ⟨r, hr⟩ : ∃ r, r = revN f o 1 0 := ⟨_, rfl⟩
      have hcl : wr.cell? ⟨g, 0, none⟩ = some (.int .u8 (y : Int)) := cell_keep (cellsAt HOW.out HG.out 0 _ (by unfold u8L; rw [List.getElem?_map, gtL_get f o 1 0 (by decide), ← hy]; rfl)) HCH.out (by simp)
      have HE : Hid (r * 256 + y = revN f o 1 1) := Lib.hid (by rw [hr, hy]; rfl)
      have hrl : r < 16777216 := by
        have := revN_lt f HF.out o 1 0 (by decide)
        rw [← hr] at this
        exact Nat.lt_of_lt_of_le this (by decide)
      obtain ⟨e1, e2, e3, e4⟩ := rl_w f HF.out r y hrl (by rw [hy]; exact HF.out _)
      rw [← hr]
      clear hy hr hrl ht
      go_wp2
      case roundEnd => exact ⟨⟨1, by decide, rfl, by rw [← HE.out, Int.natCast_add, Int.natCast_mul, e4]; rfl, HCH.out⟩, by decide⟩
    · have HL := Lib.hid (revN_le f o 1 (by decide))
      obtain ⟨r, hr⟩ : ∃ r, r = revN f o 1 1 := ⟨_, rfl⟩
      rw [← hr] at HL ⊢
      clear hr ht
      go_wp2
      go_ret2
      exact ⟨by rw [HL.out]; rfl, HC1.out.trans HCH.out⟩
set_option maxRecDepth 100000 in
set_option maxHeartbeats 1600000 in
theorem rload_2 {w : World} {p m N : Nat} {f : Nat → Nat} {a o : Nat} (hR : RamAt w p m N f) (hf : ∀ i, f i < 256) (ha : a = 2147483648 + o) (ho : o + 2 ≤ 65536) :
    Calls Try.prog 31 #[.pointer (some ⟨p, 0, none⟩), .int .i64 (a : Int), .int .i64 2] w fun e w' => e = .returned (.tuple #[.int .i64 (leN f o 2 : Int), .bool true]) ∧ Chg [] w w' := by
  have HR := Lib.hid hR
  have HA := Lib.hid ha
  have HO := Lib.hid ho
  have HF := Lib.hid hf
  clear hR ha ho hf
  go_enter Try.func31, Try.ntmps31
  go_wp2_with fail
  refine (rget_ok (n := 2) HR.out HA.out HO.out).mono ?_
  rintro e w1 ⟨v, rfl, how, hc1⟩
  obtain ⟨q, cp, rfl, hq⟩ := own_form how
  obtain ⟨g, rfl, hg⟩ := hq (by decide)
  have HOW := Lib.hid how
  have HG := Lib.hid hg
  have HC1 := Lib.hid hc1
  clear how hg hc1 hq
  go_wp2_with fail
  go_loopw [10, 11] (fun v i wr => ∃ t : Nat, t ≤ 2 ∧ i = .int .i64 (1 - (t : Int)) ∧ v = .int .i64 (revN f o 2 t : Int) ∧ Chg [] w1 wr) (fun _ i _ => (1 + match i with | .int _ x => x | _ => 0 : Int).toNat)
  case atStart => exact ⟨0, Nat.zero_le _, rfl, rfl, Chg.refl _ _⟩
  case round =>
    obtain ⟨t, ht, rfl, rfl, hch⟩ := hrel
    have HCH := Lib.hid hch
    clear hch
    obtain rfl | rfl | rfl : t = 0 ∨ t = 1 ∨ t = 2 := by omega
    · obtain ⟨y, hy⟩ : ∃ y, y = f (o + 1) := ⟨_, rfl⟩
      obtain ⟨r, hr⟩ : ∃ r, r = revN f o 2 0 := ⟨_, rfl⟩
      have hcl : wr.cell? ⟨g, 1, none⟩ = some (.int .u8 (y : Int)) := cell_keep (cellsAt HOW.out HG.out 1 _ (by unfold u8L; rw [List.getElem?_map, gtL_get f o 2 1 (by decide), ← hy]; rfl)) HCH.out (by simp)
      have HE : Hid (r * 256 + y = revN f o 2 1) := Lib.hid (by rw [hr, hy]; rfl)
      have hrl : r < 16777216 := by
        have := revN_lt f HF.out o 2 0 (by decide)
        rw [← hr] at this
        exact Nat.lt_of_lt_of_le this (by decide)
      obtain ⟨e1, e2, e3, e4⟩ := rl_w f HF.out r y hrl (by rw [hy]; exact HF.out _)
      rw [← hr]
      clear hy hr hrl ht
      go_wp2
      case roundEnd => exact ⟨⟨1, by decide, rfl, by rw [← HE.out, Int.natCast_add, Int.natCast_mul, e4]; rfl, HCH.out⟩, by decide⟩
    · obtain ⟨y, hy⟩ : ∃ y, y = f (o + 0) := ⟨_, rfl⟩
      obtain ⟨r, hr⟩ : ∃ r, r = revN f o 2 1 := ⟨_, rfl⟩
      have hcl : wr.cell? ⟨g, 0, none⟩ = some (.int .u8 (y : Int)) := cell_keep (cellsAt HOW.out HG.out 0 _ (by unfold u8L; rw [List.getElem?_map, gtL_get f o 2 0 (by decide), ← hy]; rfl)) HCH.out (by simp)
      have HE : Hid (r * 256 + y = revN f o 2 2) := Lib.hid (by rw [hr, hy]; rfl)
      have hrl : r < 16777216 := by
        have := revN_lt f HF.out o 2 1 (by decide)
        rw [← hr] at this
        exact Nat.lt_of_lt_of_le this (by decide)
      obtain ⟨e1, e2, e3, e4⟩ := rl_w f HF.out r y hrl (by rw [hy]; exact HF.out _)
      rw [← hr]
      clear hy hr hrl ht
      go_wp2
      case roundEnd => exact ⟨⟨2, by decide, rfl, by rw [← HE.out, Int.natCast_add, Int.natCast_mul, e4]; rfl, HCH.out⟩, by decide⟩
    · have HL := Lib.hid (revN_le f o 2 (by decide))
      obtain ⟨r, hr⟩ : ∃ r, r = revN f o 2 2 := ⟨_, rfl⟩
      rw [← hr] at HL ⊢
      clear hr ht
      go_wp2
      go_ret2
      exact ⟨by rw [HL.out]; rfl, HC1.out.trans HCH.out⟩
set_option maxRecDepth 100000 in
set_option maxHeartbeats 1600000 in
theorem rload_4 {w : World} {p m N : Nat} {f : Nat → Nat} {a o : Nat} (hR : RamAt w p m N f) (hf : ∀ i, f i < 256) (ha : a = 2147483648 + o) (ho : o + 4 ≤ 65536) :
    Calls Try.prog 31 #[.pointer (some ⟨p, 0, none⟩), .int .i64 (a : Int), .int .i64 4] w fun e w' => e = .returned (.tuple #[.int .i64 (leN f o 4 : Int), .bool true]) ∧ Chg [] w w' := by
  have HR := Lib.hid hR
  have HA := Lib.hid ha
  have HO := Lib.hid ho
  have HF := Lib.hid hf
  clear hR ha ho hf
  go_enter Try.func31, Try.ntmps31
  go_wp2_with fail
  refine (rget_ok (n := 4) HR.out HA.out HO.out).mono ?_
  rintro e w1 ⟨v, rfl, how, hc1⟩
  obtain ⟨q, cp, rfl, hq⟩ := own_form how
  obtain ⟨g, rfl, hg⟩ := hq (by decide)
  have HOW := Lib.hid how
  have HG := Lib.hid hg
  have HC1 := Lib.hid hc1
  clear how hg hc1 hq
  go_wp2_with fail
  go_loopw [10, 11] (fun v i wr => ∃ t : Nat, t ≤ 4 ∧ i = .int .i64 (3 - (t : Int)) ∧ v = .int .i64 (revN f o 4 t : Int) ∧ Chg [] w1 wr) (fun _ i _ => (1 + match i with | .int _ x => x | _ => 0 : Int).toNat)
  case atStart => exact ⟨0, Nat.zero_le _, rfl, rfl, Chg.refl _ _⟩
  case round =>
    obtain ⟨t, ht, rfl, rfl, hch⟩ := hrel
    have HCH := Lib.hid hch
    clear hch
    obtain rfl | rfl | rfl | rfl | rfl : t = 0 ∨ t = 1 ∨ t = 2 ∨ t = 3 ∨ t = 4 := by omega
    · obtain ⟨y, hy⟩ : ∃ y, y = f (o + 3) := ⟨_, rfl⟩
      obtain ⟨r, hr⟩ : ∃ r, r = revN f o 4 0 := ⟨_, rfl⟩
      have hcl : wr.cell? ⟨g, 3, none⟩ = some (.int .u8 (y : Int)) := cell_keep (cellsAt HOW.out HG.out 3 _ (by unfold u8L; rw [List.getElem?_map, gtL_get f o 4 3 (by decide), ← hy]; rfl)) HCH.out (by simp)
      have HE : Hid (r * 256 + y = revN f o 4 1) := Lib.hid (by rw [hr, hy]; rfl)
      have hrl : r < 16777216 := by
        have := revN_lt f HF.out o 4 0 (by decide)
        rw [← hr] at this
        exact Nat.lt_of_lt_of_le this (by decide)
      obtain ⟨e1, e2, e3, e4⟩ := rl_w f HF.out r y hrl (by rw [hy]; exact HF.out _)
      rw [← hr]
      clear hy hr hrl ht
      go_wp2
      case roundEnd => exact ⟨⟨1, by decide, rfl, by rw [← HE.out, Int.natCast_add, Int.natCast_mul, e4]; rfl, HCH.out⟩, by decide⟩
    · obtain ⟨y, hy⟩ : ∃ y, y = f (o + 2) := ⟨_, rfl⟩
      obtain ⟨r, hr⟩ : ∃ r, r = revN f o 4 1 := ⟨_, rfl⟩
      have hcl : wr.cell? ⟨g, 2, none⟩ = some (.int .u8 (y : Int)) := cell_keep (cellsAt HOW.out HG.out 2 _ (by unfold u8L; rw [List.getElem?_map, gtL_get f o 4 2 (by decide), ← hy]; rfl)) HCH.out (by simp)
      have HE : Hid (r * 256 + y = revN f o 4 2) := Lib.hid (by rw [hr, hy]; rfl)
      have hrl : r < 16777216 := by
        have := revN_lt f HF.out o 4 1 (by decide)
        rw [← hr] at this
        exact Nat.lt_of_lt_of_le this (by decide)
      obtain ⟨e1, e2, e3, e4⟩ := rl_w f HF.out r y hrl (by rw [hy]; exact HF.out _)
      rw [← hr]
      clear hy hr hrl ht
      go_wp2
      case roundEnd => exact ⟨⟨2, by decide, rfl, by rw [← HE.out, Int.natCast_add, Int.natCast_mul, e4]; rfl, HCH.out⟩, by decide⟩
    · obtain ⟨y, hy⟩ : ∃ y, y = f (o + 1) := ⟨_, rfl⟩
      obtain ⟨r, hr⟩ : ∃ r, r = revN f o 4 2 := ⟨_, rfl⟩
      have hcl : wr.cell? ⟨g, 1, none⟩ = some (.int .u8 (y : Int)) := cell_keep (cellsAt HOW.out HG.out 1 _ (by unfold u8L; rw [List.getElem?_map, gtL_get f o 4 1 (by decide), ← hy]; rfl)) HCH.out (by simp)
      have HE : Hid (r * 256 + y = revN f o 4 3) := Lib.hid (by rw [hr, hy]; rfl)
      have hrl : r < 16777216 := by
        have := revN_lt f HF.out o 4 2 (by decide)
        rw [← hr] at this
        exact Nat.lt_of_lt_of_le this (by decide)
      obtain ⟨e1, e2, e3, e4⟩ := rl_w f HF.out r y hrl (by rw [hy]; exact HF.out _)
      rw [← hr]
      clear hy hr hrl ht
      go_wp2
      case roundEnd => exact ⟨⟨3, by decide, rfl, by rw [← HE.out, Int.natCast_add, Int.natCast_mul, e4]; rfl, HCH.out⟩, by decide⟩
    · obtain ⟨y, hy⟩ : ∃ y, y = f (o + 0) := ⟨_, rfl⟩
      obtain ⟨r, hr⟩ : ∃ r, r = revN f o 4 3 := ⟨_, rfl⟩
      have hcl : wr.cell? ⟨g, 0, none⟩ = some (.int .u8 (y : Int)) := cell_keep (cellsAt HOW.out HG.out 0 _ (by unfold u8L; rw [List.getElem?_map, gtL_get f o 4 0 (by decide), ← hy]; rfl)) HCH.out (by simp)
      have HE : Hid (r * 256 + y = revN f o 4 4) := Lib.hid (by rw [hr, hy]; rfl)
      have hrl : r < 16777216 := by
        have := revN_lt f HF.out o 4 3 (by decide)
        rw [← hr] at this
        exact Nat.lt_of_lt_of_le this (by decide)
      obtain ⟨e1, e2, e3, e4⟩ := rl_w f HF.out r y hrl (by rw [hy]; exact HF.out _)
      rw [← hr]
      clear hy hr hrl ht
      go_wp2
      case roundEnd => exact ⟨⟨4, by decide, rfl, by rw [← HE.out, Int.natCast_add, Int.natCast_mul, e4]; rfl, HCH.out⟩, by decide⟩
    · have HL := Lib.hid (revN_le f o 4 (by decide))
      obtain ⟨r, hr⟩ : ∃ r, r = revN f o 4 4 := ⟨_, rfl⟩
      rw [← hr] at HL ⊢
      clear hr ht
      go_wp2
      go_ret2
      exact ⟨by rw [HL.out]; rfl, HC1.out.trans HCH.out⟩
theorem rload_ok {w : World} {p m N : Nat} {f : Nat → Nat} {a o n : Nat} (hR : RamAt w p m N f) (hf : ∀ i, f i < 256) (ha : a = 2147483648 + o) (hn : n = 1 ∨ n = 2 ∨ n = 4) (ho : o + n ≤ 65536) :
    Calls Try.prog 31 #[.pointer (some ⟨p, 0, none⟩), .int .i64 (a : Int), .int .i64 (n : Int)] w fun e w' => e = .returned (.tuple #[.int .i64 (leN f o n : Int), .bool true]) ∧ Chg [] w w' := by
  rcases hn with rfl | rfl | rfl
  · exact rload_1 hR hf ha ho
  · exact rload_2 hR hf ha ho
  · exact rload_4 hR hf ha ho
end Go.Proofs.L
