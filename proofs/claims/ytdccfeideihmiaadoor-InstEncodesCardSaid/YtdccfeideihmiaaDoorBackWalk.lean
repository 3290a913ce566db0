/- Proved here: lemmas and contracts (BackWalk) for the laws of this seat, for all values of the stated types; no further condition. -/
import Derived.Test.YtdccfeideihmiaaDoorEncLaw
import Derived.Test.YtdccfeideihmiaaDoorDecodesWalk

open Go Go.RowKit Go.Lib
namespace Go.Proofs.L
attribute [local irreducible] wpT
theorem enc_none (W : World) : Calls Tryd.prog 12 #[.agg (insA 0 0 0 0 0)] W fun e w' => e = .returned (.tuple #[.int .u32 0, .bool false]) ∧ Chg [] W w' := enc_bad1 0 0 0 0 0 (by decide) W
theorem beqI (a b : Int) (p : Bool) (h : p = decide (a = b)) : (a == b) = p := by subst h; rw [Bool.eq_iff_iff]; simp
set_option maxRecDepth 100000 in
set_option maxHeartbeats 800000 in
theorem back_end (x y k rd rs1 rs2 imm : Nat) (hk : k ≠ 0) (hxy : y = x ∨ (k = 46 ∧ y = 15)) (hd : ∀ w, Calls Tryd.prog 10 #[.int .u32 (x : Int)] w fun e w' => e = .returned (.agg (insA k rd rs1 rs2 imm)) ∧ Chg [] w w')
    (hd2 : ∀ w, Calls Tryd.prog 10 #[.int .u32 (y : Int)] w fun e w' => e = .returned (.agg (insA k rd rs1 rs2 imm)) ∧ Chg [] w w')
    (he : ∀ w, LaidOk w → Calls Tryd.prog 12 #[.agg (insA k rd rs1 rs2 imm)] w fun e w' => e = .returned (.tuple #[.int .u32 (y : Int), .bool true]) ∧ Chg [] w w') (w : World) (hL : LaidOk w) :
    Calls Tryd.prog 4 #[.int .u32 (x : Int)] w fun e w' => e = .returned (.bool true) ∧ Chg [] w w' := by
  have HF := Lib.hid (fit_ok w hL)
  have H := Lib.hid hL
  have HD := Lib.hid hd
  have HD2 := Lib.hid hd2
  have k0 : ((k : Int) == 0) = false := by simpa using hk
  have k1 : ((k : Int) = 0) = False := by simpa using hk
  have HE0 := Lib.hid he
  have HXY := Lib.hid hxy
  clear hL hd hd2 he hk hxy
  go_enter Tryd.func4, Tryd.ntmps4
  go_wp2_with fail
  refine HF.out.mono ?_
  rintro e w0 ⟨rfl, hc0⟩
  have HC0 := Lib.hid hc0
  clear hc0
  go_wp2_with fail
  refine (HD.out w0).mono ?_
  rintro e w1 ⟨rfl, hc1⟩
  unfold insA
  obtain ⟨B, hB⟩ : ∃ B, B = w1.heap.size := ⟨_, rfl⟩
  obtain ⟨V, hV⟩ : ∃ V, V = w1.alloc (.cells #[.int .i64 (k : Int), .int .i64 (rd : Int), .int .i64 (rs1 : Int), .int .i64 (rs2 : Int), .int .u32 (imm : Int)] 26) := ⟨_, rfl⟩
  have hCV : Chg [] w V := by rw [hV]; exact (HC0.out.trans hc1).alloc _
  have rb : V.row? B = some #[.int .i64 (k : Int), .int .i64 (rd : Int), .int .i64 (rs1 : Int), .int .i64 (rs2 : Int), .int .u32 (imm : Int)] := by rw [hV]; exact row_alloc_at _ _ _ _ hB
  have HE := Lib.hid (HE0.out V (H.out.keep hCV))
  have HCV := Lib.hid hCV
  have HRB := Lib.hid rb
  have cb : ∀ W, Chg [] V W → ∀ j u, #[Value.int .i64 (k : Int), Value.int .i64 (rd : Int), Value.int .i64 (rs1 : Int), Value.int .i64 (rs2 : Int), Value.int .u32 (imm : Int)][j]? = some u → W.cell? ⟨B, j, none⟩ = some u := fun W hW j u hu => by
    rw [row_cell (by rw [hW.row (row_lt rb) (by simp)]; exact rb)]; exact hu
  have HCB := Lib.hid cb
  have v0 := cb V (Chg.refl _ _) 0 _ rfl
  have v1 := cb V (Chg.refl _ _) 1 _ rfl
  have v2 := cb V (Chg.refl _ _) 2 _ rfl
  have v3 := cb V (Chg.refl _ _) 3 _ rfl
  have v4 := cb V (Chg.refl _ _) 4 _ rfl
  clear hc1 hCV rb cb
  go_wp2_with (refine wpList_store_new a26 _ _ rfl rfl rfl rfl rfl rfl rfl rfl ?_)
  rw [← hB, ← hV]
  clear hB hV
  refine HE.out.mono ?_
  rintro e w2 ⟨rfl, hc2⟩
  have u0 := HCB.out w2 hc2 0 _ rfl
  have HC2 := Lib.hid hc2
  clear hc2 v0 v1 v2 v3 v4 HE
  go_wp2_with fail
  have hX : Hid (∀ W, Chg [] w2 W → ∀ j u, #[Value.int .i64 (k : Int), Value.int .i64 (rd : Int), Value.int .i64 (rs1 : Int), Value.int .i64 (rs2 : Int), Value.int .u32 (imm : Int)][j]? = some u → W.cell? ⟨B, j, none⟩ = some u) := Lib.hid fun W hW => HCB.out W (HC2.out.trans hW)
  have e0 := HXY.out
  by_cases hyx : y = x
  · have hb : ((y : Int) == (x : Int)) = true := by rw [hyx]; exact beq_self_eq_true _
    clear e0 hyx u0
    refine wp_region_C (fun w' => Chg [] w2 w' ∧ (∀ j u, #[Value.int .i64 (k : Int), Value.int .i64 (rd : Int), Value.int .i64 (rs1 : Int), Value.int .i64 (rs2 : Int), Value.int .u32 (imm : Int)][j]? = some u → w'.cell? ⟨B, j, none⟩ = some u)) [(0, 0), (1, 0), (2, 0), (3, 0), (4, 0), (5, 0), (6, 0), (7, 1), (8, 0), (9, 0), (10, 0), (11, 0), (12, 0), (13, 0), (14, 0), (15, 0), (16, 0), (18, 1), (17, 2), (19, 0), (20, 0), (21, 0)] rfl (by kernel_rfl) ?hSA ?hTA
    case hSA => exact ⟨(Chg.refl _ _).drew, hX.out _ (Chg.refl _ _).drew⟩
    refine wpT_pureD (v := ?_) (some 25) rfl rfl (by rfl) (fun w' => ?_) ?_
    rotate_left
    · (go_simp; try with_reducible rfl)
    try simp only [Act.put, List.setIfInBounds_toArray, List.set_cons_zero, List.set_cons_succ]
    refine wpT_pureD (v := ?_) (some 26) rfl rfl (by rfl) (fun w' => ?_) ?_
    rotate_left
    · (go_simp; try with_reducible rfl)
    try simp only [Act.put, List.setIfInBounds_toArray, List.set_cons_zero, List.set_cons_succ]
    refine wpT_pureD (v := ?_) (some 27) rfl rfl (by rfl) (fun w' => ?_) ?_
    rotate_left
    · (go_simp; try with_reducible rfl)
    try simp only [Act.put, List.setIfInBounds_toArray, List.set_cons_zero, List.set_cons_succ]
    refine wpT_pureD (v := ?_) (some 28) rfl rfl (by rfl) (fun w' => ?_) ?_
    rotate_left
    · (go_simp; try with_reducible rfl)
    try simp only [Act.put, List.setIfInBounds_toArray, List.set_cons_zero, List.set_cons_succ]
    refine wpT_pureD (v := ?_) (some 29) rfl rfl (by rfl) (fun w' => ?_) ?_
    rotate_left
    · (go_simp; try with_reducible rfl)
    try simp only [Act.put, List.setIfInBounds_toArray, List.set_cons_zero, List.set_cons_succ]
    refine wpT_pureD (v := ?_) (some 30) rfl rfl (by rfl) (fun w' => ?_) ?_
    rotate_left
    · (go_simp; try with_reducible rfl)
    try simp only [Act.put, List.setIfInBounds_toArray, List.set_cons_zero, List.set_cons_succ]
    refine wpT_skipD (some 31) rfl rfl (by rfl) ?_
    try simp only [Act.put, List.setIfInBounds_toArray, List.set_cons_zero, List.set_cons_succ]
    refine wpT_skipD (some 32) rfl rfl (by rfl) ?_
    try simp only [Act.put, List.setIfInBounds_toArray, List.set_cons_zero, List.set_cons_succ]
    refine wpT_skipD (some 33) rfl rfl (by rfl) ?_
    try simp only [Act.put, List.setIfInBounds_toArray, List.set_cons_zero, List.set_cons_succ]
    refine wpT_skipD (some 34) rfl rfl (by rfl) ?_
    try simp only [Act.put, List.setIfInBounds_toArray, List.set_cons_zero, List.set_cons_succ]
    refine wpT_skipD (some 35) rfl rfl (by rfl) ?_
    try simp only [Act.put, List.setIfInBounds_toArray, List.set_cons_zero, List.set_cons_succ]
    refine wpT_skipD (some 36) rfl rfl (by rfl) ?_
    try simp only [Act.put, List.setIfInBounds_toArray, List.set_cons_zero, List.set_cons_succ]
    refine wpT_skipD (some 37) rfl rfl (by rfl) ?_
    try simp only [Act.put, List.setIfInBounds_toArray, List.set_cons_zero, List.set_cons_succ]
    refine wpT_pureD (v := ?_) (some 38) rfl rfl (by rfl) (fun w' => ?_) ?_
    rotate_left
    · (go_simp; try with_reducible rfl)
    try simp only [Act.put, List.setIfInBounds_toArray, List.set_cons_zero, List.set_cons_succ]
    refine wpT_pureD (v := ?_) (some 39) rfl rfl (by rfl) (fun w' => ?_) ?_
    rotate_left
    · (go_simp; try with_reducible rfl)
    try simp only [Act.put, List.setIfInBounds_toArray, List.set_cons_zero, List.set_cons_succ]
    refine wpT_pureD (v := ?_) (some 40) rfl rfl (by rfl) (fun w' => ?_) ?_
    rotate_left
    · (go_simp; try with_reducible rfl)
    try simp only [Act.put, List.setIfInBounds_toArray, List.set_cons_zero, List.set_cons_succ]
    refine wpT_pureD (v := ?_) (some 41) rfl rfl (by rfl) (fun w' => ?_) ?_
    rotate_left
    · (go_simp; try with_reducible rfl)
    try simp only [Act.put, List.setIfInBounds_toArray, List.set_cons_zero, List.set_cons_succ]
    refine wpT_load_part a26 [.int .i64 (k : Int), .int .i64 (rd : Int), .int .i64 (rs1 : Int), .int .i64 (rs2 : Int), .int .u32 (imm : Int)] (some 43) _ rfl rfl rfl (by rfl) rfl rfl (fun w' hw j u hu => by rw [Nat.zero_add]; exact hw.2 j u (by simpa using hu)) ?_
    try simp only [Act.put, List.setIfInBounds_toArray, List.set_cons_zero, List.set_cons_succ]
    refine wpT_eff rfl (by rfl) (fun K hK => ?_)
    go_wp2_with fail
    refine (HD2.out _).mono ?_
    rintro e w3 ⟨rfl, hc3⟩
    unfold insA
    go_wp2_with fail
    refine hK _ _ ⟨(Chg.refl _ _).drew.trans hc3, hX.out _ ((Chg.refl _ _).drew.trans hc3)⟩ ?_
    clear hK K
    refine wpT_pureD (v := ?_) (some 44) rfl rfl (by rfl) (fun w' => ?_) ?_
    rotate_left
    · (go_simp; try with_reducible rfl)
    try simp only [Act.put, List.setIfInBounds_toArray, List.set_cons_zero, List.set_cons_succ]
    refine wpT_pureD (v := ?_) (some 45) rfl rfl (by rfl) (fun w' => ?_) ?_
    rotate_left
    · (go_simp; try with_reducible rfl)
    try simp only [Act.put, List.setIfInBounds_toArray, List.set_cons_zero, List.set_cons_succ]
    refine wpT_pureD (v := ?_) (some 2) rfl rfl (by rfl) (fun w' => ?_) ?_
    rotate_left
    · (go_simp; try with_reducible rfl)
    try simp only [Act.put, List.setIfInBounds_toArray, List.set_cons_zero, List.set_cons_succ]
    refine wpT_end ?_
    go_wp2
    go_ret
    exact ⟨rfl, ((HCV.out.trans HC2.out).drew).trans hc3⟩
  · obtain ⟨rfl, rfl⟩ : k = 46 ∧ y = 15 := by rcases e0 with h | h; exact absurd h hyx; exact h
    have hb : (((15 : Nat) : Int) == (x : Int)) = false := by rw [beqI _ _ false]; simp; omega
    have hb2 : (15 = (x : Int)) = False := by simp; omega
    clear e0 hyx u0
    refine wp_region_C (fun w' => Chg [] w2 w' ∧ (∀ j u, #[Value.int .i64 ((46 : Nat) : Int), Value.int .i64 (rd : Int), Value.int .i64 (rs1 : Int), Value.int .i64 (rs2 : Int), Value.int .u32 (imm : Int)][j]? = some u → w'.cell? ⟨B, j, none⟩ = some u) ∧ w'.cell? ⟨B, 0, none⟩ = some (.int .i64 46)) [(0, 0), (1, 0), (2, 0), (3, 0), (4, 0), (5, 0), (6, 0), (7, 1), (8, 0), (9, 0), (10, 0), (11, 0), (12, 0), (13, 0), (14, 0), (15, 0), (16, 0), (18, 1), (17, 2), (19, 0), (20, 0), (21, 0)] rfl (by kernel_rfl) ?hSB ?hTB
    case hSB => exact ⟨(Chg.refl _ _).drew, hX.out _ (Chg.refl _ _).drew, hX.out _ (Chg.refl _ _).drew 0 _ rfl⟩
    refine wpT_pureD (v := ?_) (some 25) rfl rfl (by rfl) (fun w' => ?_) ?_
    rotate_left
    · (go_simp; try with_reducible rfl)
    try simp only [Act.put, List.setIfInBounds_toArray, List.set_cons_zero, List.set_cons_succ]
    refine wpT_pureD (v := ?_) (some 26) rfl rfl (by rfl) (fun w' => ?_) ?_
    rotate_left
    · (go_simp; try with_reducible rfl)
    try simp only [Act.put, List.setIfInBounds_toArray, List.set_cons_zero, List.set_cons_succ]
    refine wpT_pureD (v := ?_) (some 27) rfl rfl (by rfl) (fun w' => ?_) ?_
    rotate_left
    · (go_simp; try with_reducible rfl)
    try simp only [Act.put, List.setIfInBounds_toArray, List.set_cons_zero, List.set_cons_succ]
    refine wpT_pureD (v := ?_) (some 28) rfl rfl (by rfl) (fun w' => ?_) ?_
    rotate_left
    · (go_simp; try with_reducible rfl)
    try simp only [Act.put, List.setIfInBounds_toArray, List.set_cons_zero, List.set_cons_succ]
    refine wpT_pureD (v := .bool false) (some 29) rfl rfl (by rfl) (fun w' => ?_) ?_
    · (go_simp)
    try simp only [Act.put, List.setIfInBounds_toArray, List.set_cons_zero, List.set_cons_succ]
    refine wpT_pureD (v := ?_) (some 30) rfl rfl (by rfl) (fun w' => ?_) ?_
    rotate_left
    · (go_simp; try with_reducible rfl)
    try simp only [Act.put, List.setIfInBounds_toArray, List.set_cons_zero, List.set_cons_succ]
    refine wpT_pureD (v := ?_) (some 31) rfl rfl (by rfl) (fun w' => ?_) ?_
    rotate_left
    · (go_simp; try with_reducible rfl)
    try simp only [Act.put, List.setIfInBounds_toArray, List.set_cons_zero, List.set_cons_succ]
    refine wpT_readD (v := ?_) (some 32) rfl rfl (by rfl) (fun w' hw => ?_) ?_
    rotate_left
    · (obtain ⟨q0, q1, q2⟩ := hw; go_simp; try with_reducible rfl)
    try simp only [Act.put, List.setIfInBounds_toArray, List.set_cons_zero, List.set_cons_succ]
    refine wpT_pureD (v := ?_) (some 33) rfl rfl (by rfl) (fun w' => ?_) ?_
    rotate_left
    · (go_simp; try with_reducible rfl)
    try simp only [Act.put, List.setIfInBounds_toArray, List.set_cons_zero, List.set_cons_succ]
    refine wpT_pureD (v := ?_) (some 34) rfl rfl (by rfl) (fun w' => ?_) ?_
    rotate_left
    · (go_simp; try with_reducible rfl)
    try simp only [Act.put, List.setIfInBounds_toArray, List.set_cons_zero, List.set_cons_succ]
    refine wpT_pureD (v := ?_) (some 35) rfl rfl (by rfl) (fun w' => ?_) ?_
    rotate_left
    · (go_simp; try with_reducible rfl)
    try simp only [Act.put, List.setIfInBounds_toArray, List.set_cons_zero, List.set_cons_succ]
    refine wpT_pureD (v := ?_) (some 36) rfl rfl (by rfl) (fun w' => ?_) ?_
    rotate_left
    · (go_simp; try with_reducible rfl)
    try simp only [Act.put, List.setIfInBounds_toArray, List.set_cons_zero, List.set_cons_succ]
    refine wpT_pureD (v := ?_) (some 37) rfl rfl (by rfl) (fun w' => ?_) ?_
    rotate_left
    · (go_simp; try with_reducible rfl)
    try simp only [Act.put, List.setIfInBounds_toArray, List.set_cons_zero, List.set_cons_succ]
    refine wpT_pureD (v := ?_) (some 38) rfl rfl (by rfl) (fun w' => ?_) ?_
    rotate_left
    · (go_simp; try with_reducible rfl)
    try simp only [Act.put, List.setIfInBounds_toArray, List.set_cons_zero, List.set_cons_succ]
    refine wpT_pureD (v := ?_) (some 39) rfl rfl (by rfl) (fun w' => ?_) ?_
    rotate_left
    · (go_simp; try with_reducible rfl)
    try simp only [Act.put, List.setIfInBounds_toArray, List.set_cons_zero, List.set_cons_succ]
    refine wpT_pureD (v := ?_) (some 40) rfl rfl (by rfl) (fun w' => ?_) ?_
    rotate_left
    · (go_simp; try with_reducible rfl)
    try simp only [Act.put, List.setIfInBounds_toArray, List.set_cons_zero, List.set_cons_succ]
    refine wpT_pureD (v := ?_) (some 41) rfl rfl (by rfl) (fun w' => ?_) ?_
    rotate_left
    · (go_simp; try with_reducible rfl)
    try simp only [Act.put, List.setIfInBounds_toArray, List.set_cons_zero, List.set_cons_succ]
    refine wpT_load_part a26 [.int .i64 ((46 : Nat) : Int), .int .i64 (rd : Int), .int .i64 (rs1 : Int), .int .i64 (rs2 : Int), .int .u32 (imm : Int)] (some 43) _ rfl rfl rfl (by rfl) rfl rfl (fun w' hw j u hu => by rw [Nat.zero_add]; exact hw.2.1 j u (by simpa using hu)) ?_
    try simp only [Act.put, List.setIfInBounds_toArray, List.set_cons_zero, List.set_cons_succ]
    refine wpT_eff rfl (by rfl) (fun K hK => ?_)
    go_wp2_with fail
    refine (HD2.out _).mono ?_
    rintro e w3 ⟨rfl, hc3⟩
    unfold insA
    go_wp2_with fail
    refine hK _ _ ⟨(Chg.refl _ _).drew.trans hc3, hX.out _ ((Chg.refl _ _).drew.trans hc3), hX.out _ ((Chg.refl _ _).drew.trans hc3) 0 _ rfl⟩ ?_
    clear hK K
    refine wpT_pureD (v := ?_) (some 44) rfl rfl (by rfl) (fun w' => ?_) ?_
    rotate_left
    · (go_simp; try with_reducible rfl)
    try simp only [Act.put, List.setIfInBounds_toArray, List.set_cons_zero, List.set_cons_succ]
    refine wpT_pureD (v := ?_) (some 45) rfl rfl (by rfl) (fun w' => ?_) ?_
    rotate_left
    · (go_simp; try with_reducible rfl)
    try simp only [Act.put, List.setIfInBounds_toArray, List.set_cons_zero, List.set_cons_succ]
    refine wpT_pureD (v := ?_) (some 2) rfl rfl (by rfl) (fun w' => ?_) ?_
    rotate_left
    · (go_simp; try with_reducible rfl)
    try simp only [Act.put, List.setIfInBounds_toArray, List.set_cons_zero, List.set_cons_succ]
    refine wpT_end ?_
    go_wp2
    go_ret
    exact ⟨rfl, ((HCV.out.trans HC2.out).drew).trans hc3⟩
set_option maxRecDepth 100000 in
set_option maxHeartbeats 800000 in
theorem back_zero (x : Nat) (hd : ∀ w, Calls Tryd.prog 10 #[.int .u32 (x : Int)] w fun e w' => e = .returned (.agg #[.int .i64 0, .int .i64 0, .int .i64 0, .int .i64 0, .int .u32 0]) ∧ Chg [] w w') (w : World) (hL : LaidOk w) :
    Calls Tryd.prog 4 #[.int .u32 (x : Int)] w fun e w' => e = .returned (.bool true) ∧ Chg [] w w' := by
  have HF := Lib.hid (fit_ok w hL)
  have HD := Lib.hid hd
  clear hL hd
  go_enter Tryd.func4, Tryd.ntmps4
  go_wp2_with fail
  refine HF.out.mono ?_
  rintro e w0 ⟨rfl, hc0⟩
  have HC0 := Lib.hid hc0
  clear hc0
  go_wp2_with fail
  refine (HD.out w0).mono ?_
  rintro e w1 ⟨rfl, hc1⟩
  obtain ⟨B, hB⟩ : ∃ B, B = w1.heap.size := ⟨_, rfl⟩
  obtain ⟨V, hV⟩ : ∃ V, V = w1.alloc (.cells #[.int .i64 0, .int .i64 0, .int .i64 0, .int .i64 0, .int .u32 0] 26) := ⟨_, rfl⟩
  have hCV : Chg [] w V := by rw [hV]; exact (HC0.out.trans hc1).alloc _
  have rb : V.row? B = some #[.int .i64 0, .int .i64 0, .int .i64 0, .int .i64 0, .int .u32 0] := by rw [hV]; exact row_alloc_at _ _ _ _ hB
  have HE := Lib.hid (enc_none V)
  have HCV := Lib.hid hCV
  have HRB := Lib.hid rb
  have cb : ∀ W, Chg [] V W → ∀ j u, #[Value.int .i64 0, Value.int .i64 0, Value.int .i64 0, Value.int .i64 0, Value.int .u32 0][j]? = some u → W.cell? ⟨B, j, none⟩ = some u := fun W hW j u hu => by
    rw [row_cell (by rw [hW.row (row_lt rb) (by simp)]; exact rb)]; exact hu
  have HCB := Lib.hid cb
  have v0 := cb V (Chg.refl _ _) 0 _ rfl
  have v1 := cb V (Chg.refl _ _) 1 _ rfl
  have v2 := cb V (Chg.refl _ _) 2 _ rfl
  have v3 := cb V (Chg.refl _ _) 3 _ rfl
  have v4 := cb V (Chg.refl _ _) 4 _ rfl
  clear hc1 hCV rb cb
  go_wp2_with (refine wpList_store_new a26 _ _ rfl rfl rfl rfl rfl rfl rfl rfl ?_)
  rw [← hB, ← hV]
  clear hB hV
  refine HE.out.mono ?_
  rintro e w2 ⟨rfl, hc2⟩
  have u0 := HCB.out w2 hc2 0 _ rfl
  have u1 := HCB.out w2 hc2 1 _ rfl
  have u2 := HCB.out w2 hc2 2 _ rfl
  have u3 := HCB.out w2 hc2 3 _ rfl
  have u4 := HCB.out w2 hc2 4 _ rfl
  have HC2 := Lib.hid hc2
  clear hc2 v0 v1 v2 v3 v4 HE
  go_wp2
  go_ret
  exact ⟨rfl, HCV.out.trans HC2.out⟩
theorem dec_15 : decN 15 = ⟨46, 0, 0, 0, 0⟩ := by decide
theorem back_walk (x : Nat) (hx : x < 4294967296) (w : World) (hL : LaidOk w) : Calls Tryd.prog 4 #[.int .u32 (x : Int)] w fun e w' => e = .returned (.bool true) ∧ Chg [] w w' := by
  by_cases h : ∃ k, 1 ≤ k ∧ k < 57 ∧ fitsK x k
  · obtain ⟨k, h1, h2, hf⟩ := h
    obtain ⟨e0, l1, l2, l3, l4, hok, hxy⟩ := back_any x k hx h1 h2 hf
    obtain ⟨y, hy⟩ : ∃ y, y = encP (frmL k) (wrdC k) (decN x).rd (decN x).rs1 (decN x).rs2 (decN x).imm := ⟨_, rfl⟩
    rw [← hy] at hxy
    have hA : (decN x).A = insA k (decN x).rd (decN x).rs1 (decN x).rs2 (decN x).imm := by unfold I5.A; rw [e0]
    have hd : ∀ w, Calls Tryd.prog 10 #[.int .u32 (x : Int)] w fun e w' => e = .returned (.agg (insA k (decN x).rd (decN x).rs1 (decN x).rs2 (decN x).imm)) ∧ Chg [] w w' := fun w => by rw [← hA]; exact dec_any x hx w
    refine back_end x y k _ _ _ _ (by omega) hxy hd ?_ ?_ w hL
    · rcases hxy with rfl | ⟨rfl, rfl⟩
      · exact hd
      · intro w
        have := ent_F 46 x _ hx rfl (dl_any x 46 hx h1 h2 hf)
        rw [this]
        have h15 := dec_any 15 (by decide) w
        rw [dec_15] at h15
        exact h15
    · intro w hL
      have := enc_any k _ _ _ _ h1 h2 l1 l2 l3 l4 w hL
      rw [← hy, hok] at this
      exact this
  · have hz := dl_none x hx fun k h1 h2 hf => h ⟨k, h1, h2, hf⟩
    refine back_zero x (fun w => ?_) w hL
    have := dec_any x hx w
    rw [hz] at this
    exact this
end Go.Proofs.L
