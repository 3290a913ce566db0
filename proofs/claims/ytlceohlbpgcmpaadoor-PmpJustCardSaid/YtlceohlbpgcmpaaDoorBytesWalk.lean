/- Proved here: lemmas and contracts (BytesWalk) for the laws of this seat, for all values of the stated types; no further condition. -/
import Derived.Test.YtlceohlbpgcmpaaDoorFit
import Derived.Test.YtlceohlbpgcmpaaDoorOfByte
open Go Go.RowKit Go.Lib
namespace Go.Proofs.L
attribute [local irreducible] wpT
set_option maxRecDepth 100000 in
set_option maxHeartbeats 1600000 in
theorem bytes_walk (way rights : Int) (addr : Nat) (b ad : Nat) (hb : b < 256) (w : World) (h : LaidOk w) :
    Calls Tryd.prog 5 #[entV way rights addr, .int .u8 (b : Int), .int .u32 (ad : Int)] w fun e w' => e = .returned (.bool true) ∧ Chg [] w w' := by
  obtain ⟨B, hB⟩ : ∃ B, B = w.heap.size := ⟨_, rfl⟩
  obtain ⟨V, hV⟩ : ∃ V, V = w.alloc (.cells #[.int .i64 way, .int .i64 rights, .int .u32 (addr : Int)] 32) := ⟨_, rfl⟩
  have hcV : Chg [] w V := by rw [hV]; exact (Chg.refl _ _).alloc _
  have rb : V.row? B = some #[.int .i64 way, .int .i64 rights, .int .u32 (addr : Int)] := by rw [hV]; exact row_alloc_at _ _ _ _ hB
  have HF := Lib.hid (fit_ok V (fun i c hi => by
    have := h i c hi
    rw [World.cell?_of_block (w := w) (hcV.block 0 (World.block_lt_of_cell? w _ this) (by simp))]; exact this))
  obtain ⟨y, hy⟩ : ∃ y, y = b / 8 % 4 := ⟨_, rfl⟩
  obtain ⟨z, hz⟩ : ∃ y, y = b % 8 := ⟨_, rfl⟩
  obtain ⟨t, ht⟩ : ∃ y, y = b % 32 := ⟨_, rfl⟩
  have HOf : Hid (∀ w, Calls Tryd.prog 14 #[.int .u8 (b : Int), .int .u32 (ad : Int)] w fun e w' => e = .returned (entV (y : Int) (z : Int) ad) ∧ Chg [] w w') := Lib.hid fun w => by rw [hy, hz]; exact of_any b ad hb w
  have HBy : Hid (∀ w, Calls Tryd.prog 15 #[entV (y : Int) (z : Int) ad] w fun e w' => e = .returned (.int .u8 (t : Int)) ∧ Chg [] w w') := Lib.hid fun w => by
    have := byte_any y z ad (by omega) (by omega) w
    rw [show z + 8 * y = t by omega] at this
    exact this
  have HBE : Hid (0 ≤ rights → rights ≤ 7 → 0 ≤ way → way ≤ 3 → (∃ q : Nat, (∀ w, Calls Tryd.prog 15 #[entV way rights addr] w fun e w' => e = .returned (.int .u8 (q : Int)) ∧ Chg [] w w') ∧ ∀ w, Calls Tryd.prog 14 #[.int .u8 (q : Int), .int .u32 (addr : Int)] w fun e w' => e = .returned (entV way rights addr) ∧ Chg [] w w')) := Lib.hid fun h1 h2 h3 h4 => by
    obtain ⟨a, rfl⟩ : ∃ a : Nat, rights = a := ⟨rights.toNat, by omega⟩
    obtain ⟨c, rfl⟩ : ∃ a : Nat, way = a := ⟨way.toNat, by omega⟩
    refine ⟨a + 8 * c, fun w => byte_any c a addr (by omega) (by omega) w, fun w => ?_⟩
    have := of_any (a + 8 * c) addr (by omega) w
    rw [show (a + 8 * c) / 8 % 4 = c by omega, show (a + 8 * c) % 8 = a by omega] at this
    exact this
  have e1 : (b : Int) % 8 = (z : Int) := by omega
  obtain ⟨b8, hb8⟩ : ∃ y, y = b / 8 := ⟨_, rfl⟩
  have e2 : (b : Int) / 8 = (b8 : Int) := by omega
  have e3 : (b8 : Int) % 4 = (y : Int) := by omega
  have e4 : (b : Int) % 32 = (t : Int) := by omega
  have z1 : wrap64 (z : Int) = (z : Int) := IntWalk.wrap64_in _ ⟨by omega, by omega⟩
  have y1 : wrap64 (y : Int) = (y : Int) := IntWalk.wrap64_in _ ⟨by omega, by omega⟩
  have HCV := Lib.hid hcV
  have HRB := Lib.hid rb
  have HB := Lib.hid hB
  have HV := Lib.hid hV
  unfold entV at HOf HBy HBE ⊢
  clear hcV rb hB hV hy hz ht hb hb8 h
  go_enter Tryd.func5, Tryd.ntmps5
  go_upto_region 1 with (fail)
  rw [← HB.out, ← HV.out]
  go_wp2_with fail
  refine HF.out.mono ?_
  rintro e w1 ⟨rfl, hc1⟩
  have HC1 := Lib.hid (HCV.out.trans hc1)
  have HRB1 : Hid (w1.row? B = some #[.int .i64 way, .int .i64 rights, .int .u32 (addr : Int)]) := Lib.hid (by rw [hc1.row (row_lt HRB.out) (by simp)]; exact HRB.out)
  clear hc1
  go_wp2_with fail
  refine (HOf.out _).mono ?_
  rintro e w2 ⟨rfl, hc2⟩
  obtain ⟨D, hD⟩ : ∃ B, B = w2.heap.size := ⟨_, rfl⟩
  obtain ⟨U, hU⟩ : ∃ V, V = w2.alloc (.cells #[.int .i64 (y : Int), .int .i64 (z : Int), .int .u32 (ad : Int)] 32) := ⟨_, rfl⟩
  have hcU : Chg [] w1 U := by rw [hU]; exact hc2.alloc _
  have rd : U.row? D = some #[.int .i64 (y : Int), .int .i64 (z : Int), .int .u32 (ad : Int)] := by rw [hU]; exact row_alloc_at _ _ _ _ hD
  have HRU : Hid (U.row? B = some #[.int .i64 way, .int .i64 rights, .int .u32 (addr : Int)]) := Lib.hid (by rw [hcU.row (row_lt HRB1.out) (by simp)]; exact HRB1.out)
  have d0 : U.cell? ⟨D, 0, none⟩ = some (.int .i64 (y : Int)) := by rw [row_cell rd]; rfl
  have d1 : U.cell? ⟨D, 1, none⟩ = some (.int .i64 (z : Int)) := by rw [row_cell rd]; rfl
  have d2 : U.cell? ⟨D, 2, none⟩ = some (.int .u32 (ad : Int)) := by rw [row_cell rd]; rfl
  have HCU := Lib.hid (HC1.out.trans hcU)
  clear hc2 hcU rd
  go_wp2_with (refine wpList_store_new a32 _ _ rfl rfl rfl rfl rfl rfl rfl rfl ?_)
  rw [← hD, ← hU]
  clear hD hU
  refine (HBy.out _).mono ?_
  rintro e w3 ⟨rfl, hc3⟩
  have HC3 := Lib.hid (HCU.out.trans hc3)
  have HRB3 : Hid (w3.row? B = some #[.int .i64 way, .int .i64 rights, .int .u32 (addr : Int)]) := Lib.hid (by rw [hc3.row (row_lt HRU.out) (by simp)]; exact HRU.out)
  have b0 : w3.cell? ⟨B, 0, none⟩ = some (.int .i64 way) := by rw [row_cell HRB3.out]; rfl
  have b1 : w3.cell? ⟨B, 1, none⟩ = some (.int .i64 rights) := by rw [row_cell HRB3.out]; rfl
  clear hc3 d0 d1 d2
  by_cases q1 : rights < 0
  · have g1 : decide (rights < 0) = true := by rw [decide_eq_true_eq]; omega
    go_wp2
    go_ret
    exact ⟨rfl, HC3.out⟩
  have g1 : decide (rights < 0) = false := by rw [decide_eq_false_iff_not]; omega
  by_cases q2 : 7 < rights
  · have g2 : decide (7 < rights) = true := by rw [decide_eq_true_eq]; omega
    go_wp2
    go_ret
    exact ⟨rfl, HC3.out⟩
  have g2 : decide (7 < rights) = false := by rw [decide_eq_false_iff_not]; omega
  by_cases q3 : way < 0
  · have g3 : decide (way < 0) = true := by rw [decide_eq_true_eq]; omega
    go_wp2
    go_ret
    exact ⟨rfl, HC3.out⟩
  have g3 : decide (way < 0) = false := by rw [decide_eq_false_iff_not]; omega
  by_cases q4 : 3 < way
  · have g4 : decide (3 < way) = true := by rw [decide_eq_true_eq]; omega
    go_wp2
    go_ret
    exact ⟨rfl, HC3.out⟩
  have g4 : decide (3 < way) = false := by rw [decide_eq_false_iff_not]; omega
  obtain ⟨q, hq1, hq2⟩ := HBE.out (by omega) (by omega) (by omega) (by omega)
  have HQ1 := Lib.hid hq1
  have HQ2 := Lib.hid hq2
  clear hq1 hq2 q1 q2 q3 q4
  go_upto_region 8 with (fail)
  clear b0 b1
  refine wp_region_C (fun w' => Chg [] w3 w' ∧ w'.row? B = some #[.int .i64 way, .int .i64 rights, .int .u32 (addr : Int)]) [(0, 1), (2, 0), (3, 1), (5, 1), (1, 2), (4, 2), (6, 0), (7, 0)] rfl (by kernel_rfl) ?hSA ?hTA
  case hSA => exact ⟨(Chg.refl _ _).drew, HRB3.out⟩
  refine wpT_load_part a32 [.int .i64 way, .int .i64 rights, .int .u32 (addr : Int)] (some 59) _ rfl rfl rfl (by rfl) rfl rfl (fun w' hw j u hu => by rw [Nat.zero_add, row_cell hw.2]; simpa using hu) ?_
  try simp only [Act.put, List.setIfInBounds_toArray, List.set_cons_zero, List.set_cons_succ]
  refine wpT_pureD (v := ?_) (some 61) rfl rfl (by rfl) (fun w' => ?_) ?_
  rotate_left
  · (go_simp; try with_reducible rfl)
  try simp only [Act.put, List.setIfInBounds_toArray, List.set_cons_zero, List.set_cons_succ]
  refine wpT_readD (v := .int .u32 (addr : Int)) (some 62) rfl rfl (by rfl) (fun w' hw => ?_) ?_
  · have b2 : w'.cell? ⟨B, 2, none⟩ = some (.int .u32 (addr : Int)) := by rw [row_cell hw.2]; rfl
    go_simp
  try simp only [Act.put, List.setIfInBounds_toArray, List.set_cons_zero, List.set_cons_succ]
  refine wpT_load_part a32 [.int .i64 way, .int .i64 rights, .int .u32 (addr : Int)] (some 64) _ rfl rfl rfl (by rfl) rfl rfl (fun w' hw j u hu => by rw [Nat.zero_add, row_cell hw.2]; simpa using hu) ?_
  try simp only [Act.put, List.setIfInBounds_toArray, List.set_cons_zero, List.set_cons_succ]
  refine wpT_eff rfl (by rfl) (fun K hK => ?_)
  go_wp2_with fail
  refine (HQ1.out _).mono ?_
  rintro e w4 ⟨rfl, hc4⟩
  have hc4' := (Chg.refl [] w3).drew.trans hc4
  have hr4 : w4.row? B = some #[.int .i64 way, .int .i64 rights, .int .u32 (addr : Int)] := by rw [hc4'.row (row_lt HRB3.out) (by simp)]; exact HRB3.out
  go_wp2_with fail
  refine hK _ _ ⟨hc4', hr4⟩ ?_
  clear hK K
  refine wpT_eff rfl (by rfl) (fun K hK => ?_)
  go_wp2_with fail
  refine (HQ2.out _).mono ?_
  rintro e w5 ⟨rfl, hc5⟩
  have hc5' := hc4'.trans hc5
  have hr5 : w5.row? B = some #[.int .i64 way, .int .i64 rights, .int .u32 (addr : Int)] := by rw [hc5.row (row_lt hr4) (by simp)]; exact hr4
  go_wp2_with fail
  refine hK _ _ ⟨hc5', hr5⟩ ?_
  clear hK K
  refine wpT_pureD (v := ?_) (some 65) rfl rfl (by rfl) (fun w' => ?_) ?_
  rotate_left
  · (go_simp; try with_reducible rfl)
  try simp only [Act.put, List.setIfInBounds_toArray, List.set_cons_zero, List.set_cons_succ]
  refine wpT_pureD (v := ?_) (some 6) rfl rfl (by rfl) (fun w' => ?_) ?_
  rotate_left
  · (go_simp; try with_reducible rfl)
  try simp only [Act.put, List.setIfInBounds_toArray, List.set_cons_zero, List.set_cons_succ]
  refine wpT_end ?_
  go_wp2
  go_ret
  exact ⟨rfl, HC3.out.trans hc5'⟩
end Go.Proofs.L
