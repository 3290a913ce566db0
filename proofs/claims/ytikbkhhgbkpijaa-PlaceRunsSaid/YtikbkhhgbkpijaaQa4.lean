/- Proved here: lemmas and contracts (Qa4) for the laws of this seat, for all values of the stated types; no further condition. -/
import Derived.Test.YtikbkhhgbkpijaaQa3
open Go Go.RowKit Go.Lib Go.Maps
namespace Go.Proofs.L
attribute [local irreducible] wpT
/-! the reference's Get -/
set_option maxRecDepth 100000 in
set_option maxHeartbeats 1600000 in
theorem rget_ok {w : World} {p m N : Nat} {f : Nat → Nat} {a o n : Nat} (hR : RamAt w p m N f) (ha : a = 2147483648 + o) (ho : o + n ≤ 65536) :
    Calls Try.prog 13 #[.pointer (some ⟨p, 0, none⟩), .int .i64 (a : Int), .int .i64 (n : Int)] w fun e w' => ∃ v, e = .returned (.tuple #[v, .bool true]) ∧ w'.ownsRow w.heap.size 5 1 v n (u8L (gtL f o n)) ∧ Chg [] w w' := by
  have HHas := Lib.hid (rhas_any a n (by omega) (by omega) w)
  rw [show inRam a n = true from decide_eq_true (by omega)] at HHas
  have HR := Lib.hid hR
  have HA := Lib.hid ha
  have HO := Lib.hid ho
  clear hR ha ho
  go_enter Try.func13, Try.ntmps13
  go_wp2_with fail
  refine HHas.out.mono ?_
  rintro e w' ⟨rfl, hw⟩
  obtain rfl := hw.symm
  clear hw HHas
  go_wp2_with fail
  go_loopw [8, 9] (fun v i wr => ∃ k : Nat, k ≤ n ∧ i = .int .i64 (k : Int) ∧ wr.ownsRow w.heap.size 5 1 v k (u8L (gtL f o k)) ∧ Chg [] w wr) (fun _ i _ => n - (intOf i).toNat)
  case atStart => exact ⟨0, Nat.zero_le _, rfl, World.ownsRow_nil _ _ _ _, Chg.refl _ _⟩
  case round =>
    obtain ⟨k, hk, rfl, hown, hch⟩ := hrel
    have HK := Lib.hid hk
    have HOW := Lib.hid hown
    have HCH := Lib.hid hch
    clear hown hch hk
    by_cases hkn : k < n
    · have HKN := Lib.hid hkn
      have dI : (k : Int) < (n : Int) := by omega
      have C2 : wr.cell? ⟨p, 0, none⟩ = some (.map (some m)) := by rw [row_cell (HR.out.keep HCH.out (by simp) (by simp)).row]; rfl
      have HW : Hid (wrap64 ((k : Int) + 1) = ((k + 1 : Nat) : Int)) := Lib.hid (by have := HO.out; exact wrap1 k (by omega))
      obtain ⟨q, hq⟩ : ∃ q, q = a + k := ⟨_, rfl⟩
      have wq : wrap64 ((a : Int) + (k : Int)) = (q : Int) := by have := HO.out; have := HA.out; rw [IntWalk.wrap64_in _ ⟨by omega, by omega⟩]; omega
      have HQ : Hid (q = 2147483648 + (o + k)) := Lib.hid (by have := HA.out; omega)
      obtain ⟨D, hmo, hf⟩ := (HR.out.keep HCH.out (by simp) (by simp)).own
      have HMO := Lib.hid hmo
      have HF := Lib.hid hf
      have HKEY : Hid (keyOf Try.prog 3 (.int .i64 (wrap64 ((a : Int) + (k : Int)))) = some (.int .i64 (q : Int))) := Lib.hid (by rw [wq]; exact keyOf_int_mk Try.underlying3 (by have := HQ.out; have := HO.out; simp [Lit.wf, IntKind.min, IntKind.max, IntKind.signed, IntKind.bits]; omega))
      clear hq hmo hf hkn
      go_wp2_with (at_lookup; refine wpList_lookup_own_int (H := Unit) _ rfl _ _ 73 rfl 3 5 .u8 kd3 Try.underlying73 Try.underlying5 (ze5 _) m N D rfl HMO.out _ _ rfl HKEY.out ?_)
      intro c hat hwc
      obtain ⟨y, hy⟩ : ∃ y, y = f (o + k) := ⟨_, rfl⟩
      have hc : c = (y : Int) := by
        have h1 := HF.out.at_ (o + k) (by have := HKN.out; have := HO.out; omega)
        have e : keyN (o + k) = .int .i64 (q : Int) := by unfold keyN; rw [HQ.out]
        rw [e, hat, ← hy] at h1
        injection h1 with h1
        injection h1
      subst hc
      obtain ⟨B, hB⟩ : ∃ B, B = wr.heap.size := ⟨_, rfl⟩
      obtain ⟨X, hX⟩ : ∃ X, X = wr.alloc (.cells #[.int .u8 (y : Int)] 5) := ⟨_, rfl⟩
      have hcX : Chg [] wr X := by rw [hX]; exact (Chg.refl _ _).alloc _
      have HCX : Hid (Chg [] w X) := Lib.hid (HCH.out.trans hcX)
      have HOX : Hid (X.ownsRow w.heap.size 5 1 u8 k ((gtL f o k).map fun x : Nat => Value.int .u8 (x : Int))) := Lib.hid (ownsRow_chg HOW.out hcX (by intro k _; simp))
      have HRW : Hid (X.row? B = some #[.int .u8 (y : Int)]) := Lib.hid (by rw [hX]; exact row_alloc_at _ _ _ _ hB)
      have HB := Lib.hid hB
      have HX1 := Lib.hid hX
      have HY := Lib.hid hy
      clear hy hB hX hcX hat hwc C2
      go_wp2_with (at_builtin; rw [← HB.out, ← HX1.out]; refine app_nat rfl _ _ 35 5 .u8 1 rfl Try.underlying35 info5 (by decide) w.heap.size u8 k (gtL f o k) rfl HOX.out B 0 1 1 [y] rfl rfl (one_cell HRW.out) (by have := HKN.out; have := HO.out; omega) HCX.out.size ?_)
      intro v' w5 hx1 hx2
      have HC5 : Hid (Chg [] w w5) := Lib.hid (chg_grown HCX.out hx2 (fun x hx => (HOX.out.lt x hx).1))
      have HO5 : Hid (w5.ownsRow w.heap.size 5 1 v' (k + 1) (u8L (gtL f o (k + 1)))) := Lib.hid (by
        unfold u8L; rw [gtL_succ, List.map_append, ← HY.out]; exact hx1)
      clear hx1 hx2
      go_wp2
      case roundEnd => exact ⟨⟨k + 1, HKN.out, by rw [HW.out], HO5.out, HC5.out⟩, by rw [HW.out]; simp only [intOf, Int.toNat_natCast]; have := HKN.out; omega⟩
    · have dI : ¬ (k : Int) < (n : Int) := by omega
      have hkn2 : k = n := by have := HK.out; omega
      subst hkn2
      clear hkn
      go_wp2
      go_ret2
      exact ⟨_, rfl, HOW.out, HCH.out⟩
theorem rget_bad {w : World} {v : Value} {n a : Nat} (ha : a < 8589934592) (hn : n < 8589934592) (h : inRam a n = false) : Calls Try.prog 13 #[v, .int .i64 (a : Int), .int .i64 (n : Int)] w fun e w' => e = .returned (.tuple #[.slice none 0 0, .bool false]) ∧ w' = w := by
  have HHas := Lib.hid (rhas_any a n ha hn w)
  rw [h] at HHas
  clear ha hn h
  go_enter Try.func13, Try.ntmps13
  go_wp2_with fail
  refine HHas.out.mono ?_
  rintro e w' ⟨rfl, hw⟩
  obtain rfl := hw.symm
  go_wp2
  go_ret2
  exact ⟨rfl, rfl⟩
end Go.Proofs.L
