/- Proved here: lemmas and contracts (Qa2) for the laws of this seat, for all values of the stated types; no further condition. -/
import Derived.Test.YtikbkhhgbkpijaaQa1
open Go Go.RowKit Go.Lib Go.Maps
namespace Go.Proofs.L
attribute [local irreducible] wpT
/-! the reference's Put -/
theorem putN_zero (f : Nat → Nat) (o : Nat) (g : Nat → Nat) : putN f o g 0 = f := by
  funext i; unfold putN; rw [if_neg (by omega)]
theorem i64in {n : Int} (h0 : 0 ≤ n) (h1 : n < 9223372036854775808) : IntKind.i64.wrap n = n := by
  simp [IntKind.wrap, IntKind.bits, IntKind.signed]
  omega
set_option maxRecDepth 100000 in
set_option maxHeartbeats 1600000 in
theorem rput_ok {w : World} {p m N : Nat} {f g : Nat → Nat} {ptr : Option Addr} {bb bo n cap a o : Nat} (hR : RamAt w p m N f) (ha : a = 2147483648 + o) (ho : o + n ≤ 65536) (hp : 0 < n → ptr = some ⟨bb, bo, none⟩) (hb : bb ≠ m)
    (hc : ∀ j, j < n → w.cell? ⟨bb, bo + j, none⟩ = some (.int .u8 (g j : Int)) ∧ g j < 256) (hN : N < 1000000000) :
    Calls Try.prog 15 #[.pointer (some ⟨p, 0, none⟩), .int .i64 (a : Int), .slice ptr n cap] w fun e w' => e = .returned (.bool true) ∧ RamAt w' p m (N + n) (putN f o g n) ∧ Chg [m] w w' := by
  have HHas := Lib.hid (rhas_any a n (by omega) (by omega) w)
  rw [show inRam a n = true from decide_eq_true (by omega)] at HHas
  have HR := Lib.hid hR
  have HA := Lib.hid ha
  have HO := Lib.hid ho
  have HP := Lib.hid hp
  have HB := Lib.hid hb
  have HC := Lib.hid hc
  have HN := Lib.hid hN
  clear hR ha ho hp hb hc hN
  go_enter Try.func15, Try.ntmps15
  go_wp2_with fail
  refine HHas.out.mono ?_
  rintro e w' ⟨rfl, hw⟩
  obtain rfl := hw.symm
  clear hw HHas
  go_wp2_with fail
  go_loopw [7] (fun i wr => ∃ k : Nat, k ≤ n ∧ i = .int .i64 (k : Int) ∧ RamAt wr p m (N + k) (putN f o g k) ∧ Chg [m] w wr) (fun i _ => n - (intOf i).toNat)
  case atStart => exact ⟨0, Nat.zero_le _, rfl, by rw [putN_zero]; exact HR.out, Chg.refl _ _⟩
  case round =>
    obtain ⟨k, hk, rfl, hr, hch⟩ := hrel
    have HK := Lib.hid hk
    have HRR := Lib.hid hr
    have HCH := Lib.hid hch
    clear hk hr hch
    by_cases hkn : k < n
    · have HKN := Lib.hid hkn
      have dI : (k : Int) < (n : Int) := by omega
      obtain rfl := HP.out (by omega)
      have hcl := (HC.out k hkn).1
      obtain ⟨x, hx⟩ : ∃ x, x = g k := ⟨_, rfl⟩
      have hx2 := (HC.out k hkn).2
      rw [← hx] at hcl hx2
      have C1 : Hid (wr.cell? ⟨bb, bo + k, none⟩ = some (.int .u8 (x : Int))) := Lib.hid (cell_keep hcl HCH.out (by simpa using HB.out))
      have C2 : Hid (wr.cell? ⟨p, 0, none⟩ = some (.map (some m))) := Lib.hid (by rw [row_cell HRR.out.row]; rfl)
      have HW : Hid (wrap64 ((k : Int) + 1) = ((k + 1 : Nat) : Int)) := Lib.hid (by have := HO.out; exact wrap1 k (by omega))
      obtain ⟨q, hq⟩ : ∃ q, q = a + k := ⟨_, rfl⟩
      have wq : wrap64 ((a : Int) + (k : Int)) = (q : Int) := by have := HO.out; have := HA.out; rw [IntWalk.wrap64_in _ ⟨by omega, by omega⟩]; omega
      have wq2 : IntKind.i64.wrap ((a : Int) + (k : Int)) = (q : Int) := by have := HO.out; have := HA.out; rw [i64in (by omega) (by omega)]; omega
      have HQ : Hid (q = 2147483648 + (o + k)) := Lib.hid (by have := HA.out; omega)
      have HX := Lib.hid hx
      have HX2 := Lib.hid hx2
      clear hcl hx hx2 hq hkn
      go_upto_region 6 with (fail)
      refine wp_region_C (fun w' => w'.cell? ⟨bb, bo + k, none⟩ = some (.int .u8 (x : Int)) ∧ w'.cell? ⟨p, 0, none⟩ = some (.map (some m))) [(0, 0), (1, 0), (2, 0), (3, 1), (4, 0), (5, 0), (6, 0), (7, 0), (8, 0), (9, 0), (10, 1), (11, 3)] rfl (by kernel_rfl) ?hSA ?hTA
      case hSA => exact ⟨C1.out, C2.out⟩
      refine wpT_pureD (v := ?_) (some 19) rfl rfl (by rfl) (fun w' => ?_) ?_
      rotate_left
      · (go_simp; try with_reducible rfl)
      try simp only [Act.put, List.setIfInBounds_toArray, List.set_cons_zero, List.set_cons_succ]
      refine wpT_pureD (v := ?_) (some 20) rfl rfl (by rfl) (fun w' => ?_) ?_
      rotate_left
      · (go_simp; try with_reducible rfl)
      try simp only [Act.put, List.setIfInBounds_toArray, List.set_cons_zero, List.set_cons_succ]
      refine wpT_pureD (v := ?_) (some 21) rfl rfl (by rfl) (fun w' => ?_) ?_
      rotate_left
      · (go_simp; try with_reducible rfl)
      try simp only [Act.put, List.setIfInBounds_toArray, List.set_cons_zero, List.set_cons_succ]
      refine wpT_readD (v := ?_) (some 22) rfl rfl (by rfl) (fun w' hw => ?_) ?_
      rotate_left
      · (obtain ⟨q0, q1⟩ := hw; go_simp; try with_reducible rfl)
      try simp only [Act.put, List.setIfInBounds_toArray, List.set_cons_zero, List.set_cons_succ]
      refine wpT_pureD (v := ?_) (some 23) rfl rfl (by rfl) (fun w' => ?_) ?_
      rotate_left
      · (go_simp; try with_reducible rfl)
      try simp only [Act.put, List.setIfInBounds_toArray, List.set_cons_zero, List.set_cons_succ]
      refine wpT_pureD (v := ?_) (some 24) rfl rfl (by rfl) (fun w' => ?_) ?_
      rotate_left
      · (go_simp; try with_reducible rfl)
      try simp only [Act.put, List.setIfInBounds_toArray, List.set_cons_zero, List.set_cons_succ]
      refine wpT_pureD (v := ?_) (some 25) rfl rfl (by rfl) (fun w' => ?_) ?_
      rotate_left
      · (go_simp; try with_reducible rfl)
      try simp only [Act.put, List.setIfInBounds_toArray, List.set_cons_zero, List.set_cons_succ]
      refine wpT_pureD (v := ?_) (some 26) rfl rfl (by rfl) (fun w' => ?_) ?_
      rotate_left
      · (go_simp; try with_reducible rfl)
      try simp only [Act.put, List.setIfInBounds_toArray, List.set_cons_zero, List.set_cons_succ]
      refine wpT_pureD (v := ?_) (some 27) rfl rfl (by rfl) (fun w' => ?_) ?_
      rotate_left
      · (go_simp; try with_reducible rfl)
      try simp only [Act.put, List.setIfInBounds_toArray, List.set_cons_zero, List.set_cons_succ]
      refine wpT_pureD (v := ?_) (some 28) rfl rfl (by rfl) (fun w' => ?_) ?_
      rotate_left
      · (go_simp; try with_reducible rfl)
      try simp only [Act.put, List.setIfInBounds_toArray, List.set_cons_zero, List.set_cons_succ]
      refine wpT_readD (v := ?_) (some 29) rfl rfl (by rfl) (fun w' hw => ?_) ?_
      rotate_left
      · (obtain ⟨q0, q1⟩ := hw; go_simp; try with_reducible rfl)
      try simp only [Act.put, List.setIfInBounds_toArray, List.set_cons_zero, List.set_cons_succ]
      refine wpT_brk rfl (by rfl) (fun K hK => ?_)
      obtain ⟨D, hown, hf⟩ := (HRR.out.keep (w' := wr.drew) ((Chg.refl [] wr).drew) (by simp) (by simp)).own
      have hw8 : (Lit.int .u8 (x : Int)).wf = true := by have := HX2.out; simp [Lit.wf, IntKind.min, IntKind.max, IntKind.signed, IntKind.bits]; omega
      have hkey : keyOf Try.prog 3 (.int .i64 (q : Int)) = some (.int .i64 (q : Int)) := keyOf_int_mk Try.underlying3 (by have := HQ.out; have := HO.out; simp [Lit.wf, IntKind.min, IntKind.max, IntKind.signed, IntKind.bits]; omega)
      refine wpList_mapUpdate_own (H := Unit) _ rfl _ _ _ 73 rfl 3 5 kd3 Try.underlying73 _ m (N + k) D rfl hown (by have := HO.out; have := HN.out; have := HK.out; unfold maxLen; omega) _ _ _ rfl rfl hkey _ [] (plainElem_int Try.underlying5 hw8) ?_
      intro w1 hown1 hgrow1
      have HG : Hid (Chg [m] wr w1) := Lib.hid (((Chg.refl [m] wr).drew).trans (grown_chg hgrow1))
      have HR1 : Hid (RamAt w1 p m (N + (k + 1)) (putN f o g (k + 1))) := Lib.hid (by
        refine ⟨(HG.out.row (row_lt HRR.out.row) (by simpa using HRR.out.ne)).trans HRR.out.row, ⟨_, hown1, ?_⟩, HRR.out.ne⟩
        have h := hf.put (o + k) x (by have := HO.out; have := HKN.out; omega)
        rw [HX.out, putN_succ] at h
        rw [HX.out]
        have e : keyN (o + k) = .int .i64 (q : Int) := by unfold keyN; rw [HQ.out]
        rw [e] at h
        exact h)
      clear hown hf hw8 hkey hown1 hgrow1
      go_wp2_with fail
      refine wpT_end ?_
      go_wp2
      case roundEnd => exact ⟨⟨k + 1, HKN.out, by rw [HW.out], HR1.out, HCH.out.trans HG.out⟩, by rw [HW.out]; simp only [intOf, Int.toNat_natCast]; have := HKN.out; omega⟩
    · have dI : ¬ (k : Int) < (n : Int) := by omega
      have hkn2 : k = n := by have := HK.out; omega
      subst hkn2
      clear hkn
      go_wp2
      go_ret
      exact ⟨rfl, HRR.out, HCH.out⟩
theorem rput_bad {w : World} {v : Value} {ptr : Option Addr} {n cap a : Nat} (ha : a < 8589934592) (hn : n < 8589934592) (h : inRam a n = false) : Calls Try.prog 15 #[v, .int .i64 (a : Int), .slice ptr n cap] w fun e w' => e = .returned (.bool false) ∧ w' = w := by
  have HHas := Lib.hid (rhas_any a n ha hn w)
  rw [h] at HHas
  clear ha hn h
  go_enter Try.func15, Try.ntmps15
  go_wp2_with fail
  refine HHas.out.mono ?_
  rintro e w' ⟨rfl, hw⟩
  obtain rfl := hw.symm
  go_wp2
  go_ret
  exact ⟨rfl, rfl⟩
end Go.Proofs.L
