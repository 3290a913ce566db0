/- Proved here: lemmas and contracts (EncodeAll) for the laws of this seat, for all values of the stated types; no further condition. -/
import Derived.Test.YtdccfeideihmiaaDoorSetLaw
import Derived.Test.YtdccfeideihmiaaDoorFit
open Go Go.RowKit Go.Lib
namespace Go.Proofs.L
theorem wpT_skipD {P : Program} {Q : Exit → Act → World → Prop} {ops : Array Oper} {S : World → Prop} {r : List (Nat × Nat)} {a : Act} {w : World} {i c : Nat} {o : Oper} (d : Option Tmp) (ho : ops[i]? = some o) (hd : o.dst = d) (hw : Region.wanted o (yielded ops a.tmps) = false)
    (h : wpT P ops Q S r (a.put d undef) w) : wpT P ops Q S ((i, c) :: r) a w := by subst hd; exact wpT_skip ho hw h
theorem eqz (n : Nat) : ((n : Int) == 0) = decide (n = 0) := by rw [Bool.eq_iff_iff]; simp
set_option maxRecDepth 100000 in
set_option maxHeartbeats 1600000 in
theorem enc_U (op rd rs1 rs2 imm cw : Nat) (hf : formN (op : Int) = 0) (hcw : codesL[op]? = some cw) (hc : cw < 4294967296) (hop : op < 57) (h1 : rd < 32) (h2 : rs1 < 32) (h3 : rs2 < 32) (hi : imm < 4294967296) (W : World) (h : LaidOk W) :
    Calls Tryd.prog 12 #[.agg #[.int .i64 (op : Int), .int .i64 (rd : Int), .int .i64 (rs1 : Int), .int .i64 (rs2 : Int), .int .u32 (imm : Int)]] W fun e w' => e = .returned (.tuple #[.int .u32 ((cw ||| rd * 128 ||| imm : Nat) : Int), .bool (decide (imm &&& 4095 = 0) && decide (rs1 ||| rs2 = 0))]) ∧ Chg [] W w' := by
  have c0 := h op cw hcw
  obtain ⟨B, hB⟩ : ∃ B, B = W.heap.size := ⟨_, rfl⟩
  obtain ⟨V, hV⟩ : ∃ V, V = (W.alloc (.cells #[.int .i64 (op : Int), .int .i64 (rd : Int), .int .i64 (rs1 : Int), .int .i64 (rs2 : Int), .int .u32 (imm : Int)] 26)).alloc (.cells #[.int .i64 (rd : Int), .int .i64 (rs1 : Int), .int .i64 (rs2 : Int)] 3) := ⟨_, rfl⟩
  have hC : Chg [] W V := by rw [hV]; exact ((Chg.refl _ _).alloc _).alloc _
  have rb : V.row? B = some #[.int .i64 (op : Int), .int .i64 (rd : Int), .int .i64 (rs1 : Int), .int .i64 (rs2 : Int), .int .u32 (imm : Int)] := by
    rw [hV, row_alloc_past _ _ _ (by simp; omega)]; exact row_alloc_at _ _ _ _ hB
  have rr : V.row? (B + 1) = some #[.int .i64 (rd : Int), .int .i64 (rs1 : Int), .int .i64 (rs2 : Int)] := by
    rw [hV]; exact row_alloc_at _ _ _ _ (by simp; omega)
  have c : V.cell? ⟨0, op, none⟩ = some (.int .u32 (cw : Int)) := by
    rw [World.cell?_of_block (w := W) (hC.block 0 (World.block_lt_of_cell? W _ c0) (by simp))]; exact c0
  have HR := Lib.hid (reg_any (w := V) (B := B + 1) (n := 3) (c := 3) [(rd : Int), (rs1 : Int), (rs2 : Int)] rfl (by omega) (fun j u hu => by
    rw [row_cell rr]; revert hu; match j with | 0 => intro hu; cases hu; rfl | 1 => intro hu; cases hu; rfl | 2 => intro hu; cases hu; rfl | _ + 3 => intro hu; cases hu))
  have HF : Hid (∀ w, Calls Tryd.prog 15 #[.int .i64 (op : Int)] w fun e w' => e = .returned (.int .i64 0) ∧ w' = w) := Lib.hid fun w => by rw [← hf]; exact form_any op w
  have b0 : V.cell? ⟨B, 0, none⟩ = some (.int .i64 (op : Int)) := by rw [row_cell rb]; rfl
  have b1 : V.cell? ⟨B, 1, none⟩ = some (.int .i64 (rd : Int)) := by rw [row_cell rb]; rfl
  have b2 : V.cell? ⟨B, 2, none⟩ = some (.int .i64 (rs1 : Int)) := by rw [row_cell rb]; rfl
  have b3 : V.cell? ⟨B, 3, none⟩ = some (.int .i64 (rs2 : Int)) := by rw [row_cell rb]; rfl
  have b4 : V.cell? ⟨B, 4, none⟩ = some (.int .u32 (imm : Int)) := by rw [row_cell rb]; rfl
  have HC := Lib.hid hC
  have hall : ([(rd : Int), (rs1 : Int), (rs2 : Int)] : List Int).all regB = true := by simp [regB]; omega
  have HALL := Lib.hid hall
  have hopI : (op : Int) < 57 := by omega
  have w1 : IntKind.u32.wrap (rd : Int) = rd := by rw [u32w]; omega
  have w2 : IntKind.u32.wrap (rs1 : Int) = rs1 := by rw [u32w]; omega
  have w3 : IntKind.u32.wrap (rs2 : Int) = rs2 := by rw [u32w]; omega
  have m1 : IntKind.u32.wrap ((rd : Int) * 128) = ((rd * 128 : Nat) : Int) := by rw [u32w]; omega
  have m2 : IntKind.u32.wrap ((rs1 : Int) * 32768) = ((rs1 * 32768 : Nat) : Int) := by rw [u32w]; omega
  have m3 : IntKind.u32.wrap ((rs2 : Int) * 1048576) = ((rs2 * 1048576 : Nat) : Int) := by rw [u32w]; omega
  obtain ⟨a1, ha1⟩ : ∃ a, a = rd * 128 := ⟨_, rfl⟩
  obtain ⟨a2, ha2⟩ : ∃ a, a = rs1 * 32768 := ⟨_, rfl⟩
  obtain ⟨a3, ha3⟩ : ∃ a, a = rs2 * 1048576 := ⟨_, rfl⟩
  rw [← ha1] at m1
  rw [← ha2] at m2
  rw [← ha3] at m3
  have l1 : a1 < 4294967296 := by omega
  have l2 : a2 < 4294967296 := by omega
  have l3 : a3 < 4294967296 := by omega
  have e1 : bits .or .u32 (cw : Int) (a1 : Int) = ((cw ||| a1 : Nat) : Int) := or32 _ _ hc l1
  have hb1 := or_lt hc l1
  obtain ⟨d1, hd1⟩ : ∃ d, d = cw ||| a1 := ⟨_, rfl⟩
  rw [← hd1] at e1 hb1
  have e2 : bits .or .u32 (d1 : Int) (imm : Int) = ((d1 ||| imm : Nat) : Int) := or32 _ _ hb1 hi
  have hb2 := or_lt hb1 hi
  obtain ⟨d2, hd2⟩ : ∃ d, d = d1 ||| imm := ⟨_, rfl⟩
  rw [← hd2] at e2 hb2
  have hres : cw ||| rd * 128 ||| imm = d2 := by rw [hd2, hd1, ha1]
  rw [hres]
  have zq : (bits .and .u32 (imm : Int) 4095 == 0) = decide (imm &&& 4095 = 0) := by rw [show bits .and .u32 (imm : Int) 4095 = _ from and32m imm 4095 (by decide)]; exact eqz _
  obtain ⟨q, hq⟩ : ∃ p, p = decide (imm &&& 4095 = 0) := ⟨_, rfl⟩
  rw [← hq] at zq ⊢
  have zr : (bits .or .i64 (rs1 : Int) (rs2 : Int) == 0) = decide (rs1 ||| rs2 = 0) := by rw [or64 _ _ (by omega) (by omega)]; exact eqz _
  obtain ⟨r, hr⟩ : ∃ p, p = decide (rs1 ||| rs2 = 0) := ⟨_, rfl⟩
  rw [← hr] at zr ⊢
  clear hd2 hd1 hb2 hb1 ha1 ha2 ha3 hq hr hres
  clear h c0 hC rb rr hall hf hcw hc hop h1 h2 h3 hi l1 l2 l3
  go_enter Tryd.func12, Tryd.ntmps12
  go_wp2_with fail
  refine (HF.out _).mono ?_
  rintro e w' ⟨rfl, rfl⟩
  go_wp2_with fail
  rw [← hB, ← hV]
  clear hV hB
  refine HR.out.mono ?_
  rintro e w' ⟨rfl, rfl⟩
  rw [HALL.out]
  go_wp2_with fail
  refine wp_region_C (fun w => w.cell? ⟨B, 1, none⟩ = some (.int .i64 (rd : Int)) ∧ w.cell? ⟨B, 2, none⟩ = some (.int .i64 (rs1 : Int)) ∧ w.cell? ⟨B, 3, none⟩ = some (.int .i64 (rs2 : Int))) [(0, 0), (1, 1), (2, 0), (3, 0), (4, 0), (5, 1), (6, 0), (7, 0), (8, 0), (9, 1), (10, 0), (11, 0), (12, 0), (13, 0), (14, 0)] rfl (by kernel_rfl) ?hSA ?hTA
  case hSA => exact ⟨b1, b2, b3⟩
  refine wpT_pureD (v := ?_) (some 27) rfl rfl (by rfl) (fun w' => ?_) ?_
  rotate_left
  · (go_simp; try with_reducible rfl)
  try simp only [Act.put, List.setIfInBounds_toArray, List.set_cons_zero, List.set_cons_succ]
  refine wpT_readD (v := ?_) (some 28) rfl rfl (by rfl) (fun w' hw => ?_) ?_
  rotate_left
  · (obtain ⟨q0, q1, q2⟩ := hw; go_simp; try with_reducible rfl)
  try simp only [Act.put, List.setIfInBounds_toArray, List.set_cons_zero, List.set_cons_succ]
  refine wpT_pureD (v := ?_) (some 29) rfl rfl (by rfl) (fun w' => ?_) ?_
  rotate_left
  · (go_simp; try with_reducible rfl)
  try simp only [Act.put, List.setIfInBounds_toArray, List.set_cons_zero, List.set_cons_succ]
  refine wpT_pureD (v := ?_) (some 30) rfl rfl (by rfl) (fun w' => ?_) ?_
  rotate_left
  · (go_simp; try with_reducible rfl)
  try simp only [Act.put, List.setIfInBounds_toArray, List.set_cons_zero, List.set_cons_succ]
  refine wpT_pureD (v := ?_) (some 31) rfl rfl (by rfl) (fun w' => ?_) ?_
  rotate_left
  · (go_simp; try with_reducible rfl)
  try simp only [Act.put, List.setIfInBounds_toArray, List.set_cons_zero, List.set_cons_succ]
  refine wpT_readD (v := ?_) (some 32) rfl rfl (by rfl) (fun w' hw => ?_) ?_
  rotate_left
  · (obtain ⟨q0, q1, q2⟩ := hw; go_simp; try with_reducible rfl)
  try simp only [Act.put, List.setIfInBounds_toArray, List.set_cons_zero, List.set_cons_succ]
  refine wpT_pureD (v := ?_) (some 33) rfl rfl (by rfl) (fun w' => ?_) ?_
  rotate_left
  · (go_simp; try with_reducible rfl)
  try simp only [Act.put, List.setIfInBounds_toArray, List.set_cons_zero, List.set_cons_succ]
  refine wpT_pureD (v := ?_) (some 34) rfl rfl (by rfl) (fun w' => ?_) ?_
  rotate_left
  · (go_simp; try with_reducible rfl)
  try simp only [Act.put, List.setIfInBounds_toArray, List.set_cons_zero, List.set_cons_succ]
  refine wpT_pureD (v := ?_) (some 35) rfl rfl (by rfl) (fun w' => ?_) ?_
  rotate_left
  · (go_simp; try with_reducible rfl)
  try simp only [Act.put, List.setIfInBounds_toArray, List.set_cons_zero, List.set_cons_succ]
  refine wpT_readD (v := ?_) (some 36) rfl rfl (by rfl) (fun w' hw => ?_) ?_
  rotate_left
  · (obtain ⟨q0, q1, q2⟩ := hw; go_simp; try with_reducible rfl)
  try simp only [Act.put, List.setIfInBounds_toArray, List.set_cons_zero, List.set_cons_succ]
  refine wpT_pureD (v := ?_) (some 37) rfl rfl (by rfl) (fun w' => ?_) ?_
  rotate_left
  · (go_simp; try with_reducible rfl)
  try simp only [Act.put, List.setIfInBounds_toArray, List.set_cons_zero, List.set_cons_succ]
  refine wpT_pureD (v := ?_) (some 38) rfl rfl (by rfl) (fun w' => ?_) ?_
  rotate_left
  · (go_simp; try with_reducible rfl)
  try simp only [Act.put, List.setIfInBounds_toArray, List.set_cons_zero, List.set_cons_succ]
  refine wpT_pureD (v := ?_) (some 5) rfl rfl (by rfl) (fun w' => ?_) ?_
  rotate_left
  · (go_simp; try with_reducible rfl)
  try simp only [Act.put, List.setIfInBounds_toArray, List.set_cons_zero, List.set_cons_succ]
  refine wpT_pureD (v := ?_) (some 6) rfl rfl (by rfl) (fun w' => ?_) ?_
  rotate_left
  · (go_simp; try with_reducible rfl)
  try simp only [Act.put, List.setIfInBounds_toArray, List.set_cons_zero, List.set_cons_succ]
  refine wpT_pureD (v := ?_) (some 7) rfl rfl (by rfl) (fun w' => ?_) ?_
  rotate_left
  · (go_simp; try with_reducible rfl)
  try simp only [Act.put, List.setIfInBounds_toArray, List.set_cons_zero, List.set_cons_succ]
  refine wpT_end ?_
  go_wp2_with fail
  refine (HF.out _).mono ?_
  rintro e w'' ⟨rfl, rfl⟩
  cases q
  · go_wp2_with fail
    refine wp_region_C (fun w => w.cell? ⟨B, 4, none⟩ = some (.int .u32 (imm : Int)) ∧ w.cell? ⟨B, 2, none⟩ = some (.int .i64 (rs1 : Int)) ∧ w.cell? ⟨B, 3, none⟩ = some (.int .i64 (rs2 : Int))) [(0, 0), (1, 0), (2, 0), (3, 0), (4, 1), (5, 0), (6, 0), (7, 1), (8, 0), (9, 0), (10, 0), (11, 0), (12, 1), (13, 0), (14, 1), (15, 0), (16, 0), (17, 0), (18, 0), (19, 0)] rfl (by kernel_rfl) ?hSUf ?hTUf
    case hSUf => exact ⟨b4, b2, b3⟩
    refine wpT_pureD (v := ?_) (some 44) rfl rfl (by rfl) (fun w' => ?_) ?_
    rotate_left
    · (go_simp; try with_reducible rfl)
    try simp only [Act.put, List.setIfInBounds_toArray, List.set_cons_zero, List.set_cons_succ]
    refine wpT_pureD (v := ?_) (some 45) rfl rfl (by rfl) (fun w' => ?_) ?_
    rotate_left
    · (go_simp; try with_reducible rfl)
    try simp only [Act.put, List.setIfInBounds_toArray, List.set_cons_zero, List.set_cons_succ]
    refine wpT_pureD (v := ?_) (some 46) rfl rfl (by rfl) (fun w' => ?_) ?_
    rotate_left
    · (go_simp; try with_reducible rfl)
    try simp only [Act.put, List.setIfInBounds_toArray, List.set_cons_zero, List.set_cons_succ]
    refine wpT_pureD (v := ?_) (some 47) rfl rfl (by rfl) (fun w' => ?_) ?_
    rotate_left
    · (go_simp; try with_reducible rfl)
    try simp only [Act.put, List.setIfInBounds_toArray, List.set_cons_zero, List.set_cons_succ]
    refine wpT_readD (v := ?_) (some 48) rfl rfl (by rfl) (fun w' hw => ?_) ?_
    rotate_left
    · (obtain ⟨q0, q1, q2⟩ := hw; go_simp; try with_reducible rfl)
    try simp only [Act.put, List.setIfInBounds_toArray, List.set_cons_zero, List.set_cons_succ]
    refine wpT_pureD (v := ?_) (some 49) rfl rfl (by rfl) (fun w' => ?_) ?_
    rotate_left
    · (go_simp; try with_reducible rfl)
    try simp only [Act.put, List.setIfInBounds_toArray, List.set_cons_zero, List.set_cons_succ]
    refine wpT_pureD (v := ?_) (some 50) rfl rfl (by rfl) (fun w' => ?_) ?_
    rotate_left
    · (go_simp; try with_reducible rfl)
    try simp only [Act.put, List.setIfInBounds_toArray, List.set_cons_zero, List.set_cons_succ]
    refine wpT_readD (v := ?_) (some 51) rfl rfl (by rfl) (fun w' hw => ?_) ?_
    rotate_left
    · (obtain ⟨q0, q1, q2⟩ := hw; go_simp; try with_reducible rfl)
    try simp only [Act.put, List.setIfInBounds_toArray, List.set_cons_zero, List.set_cons_succ]
    refine wpT_pureD (v := ?_) (some 52) rfl rfl (by rfl) (fun w' => ?_) ?_
    rotate_left
    · (go_simp; try with_reducible rfl)
    try simp only [Act.put, List.setIfInBounds_toArray, List.set_cons_zero, List.set_cons_succ]
    refine wpT_pureD (v := ?_) (some 53) rfl rfl (by rfl) (fun w' => ?_) ?_
    rotate_left
    · (go_simp; try with_reducible rfl)
    try simp only [Act.put, List.setIfInBounds_toArray, List.set_cons_zero, List.set_cons_succ]
    refine wpT_pureD (v := ?_) (some 54) rfl rfl (by rfl) (fun w' => ?_) ?_
    rotate_left
    · (go_simp; try with_reducible rfl)
    try simp only [Act.put, List.setIfInBounds_toArray, List.set_cons_zero, List.set_cons_succ]
    refine wpT_skipD (some 55) rfl rfl (by rfl) ?_
    try simp only [Act.put, List.setIfInBounds_toArray, List.set_cons_zero, List.set_cons_succ]
    refine wpT_skipD (some 56) rfl rfl (by rfl) ?_
    try simp only [Act.put, List.setIfInBounds_toArray, List.set_cons_zero, List.set_cons_succ]
    refine wpT_skipD (some 57) rfl rfl (by rfl) ?_
    try simp only [Act.put, List.setIfInBounds_toArray, List.set_cons_zero, List.set_cons_succ]
    refine wpT_skipD (some 58) rfl rfl (by rfl) ?_
    try simp only [Act.put, List.setIfInBounds_toArray, List.set_cons_zero, List.set_cons_succ]
    refine wpT_skipD (some 59) rfl rfl (by rfl) ?_
    try simp only [Act.put, List.setIfInBounds_toArray, List.set_cons_zero, List.set_cons_succ]
    refine wpT_skipD (some 60) rfl rfl (by rfl) ?_
    try simp only [Act.put, List.setIfInBounds_toArray, List.set_cons_zero, List.set_cons_succ]
    refine wpT_pureD (v := ?_) (some 61) rfl rfl (by rfl) (fun w' => ?_) ?_
    rotate_left
    · (go_simp; try with_reducible rfl)
    try simp only [Act.put, List.setIfInBounds_toArray, List.set_cons_zero, List.set_cons_succ]
    refine wpT_pureD (v := ?_) (some 2) rfl rfl (by rfl) (fun w' => ?_) ?_
    rotate_left
    · (go_simp; try with_reducible rfl)
    try simp only [Act.put, List.setIfInBounds_toArray, List.set_cons_zero, List.set_cons_succ]
    refine wpT_pureD (v := ?_) (some 3) rfl rfl (by rfl) (fun w' => ?_) ?_
    rotate_left
    · (go_simp; try with_reducible rfl)
    try simp only [Act.put, List.setIfInBounds_toArray, List.set_cons_zero, List.set_cons_succ]
    refine wpT_end ?_
    go_wp2
    go_ret2
    exact ⟨rfl, (HC.out.drew).drew⟩
  · go_wp2_with fail
    refine wp_region_C (fun w => w.cell? ⟨B, 4, none⟩ = some (.int .u32 (imm : Int)) ∧ w.cell? ⟨B, 2, none⟩ = some (.int .i64 (rs1 : Int)) ∧ w.cell? ⟨B, 3, none⟩ = some (.int .i64 (rs2 : Int))) [(0, 0), (1, 0), (2, 0), (3, 0), (4, 1), (5, 0), (6, 0), (7, 1), (8, 0), (9, 0), (10, 0), (11, 0), (12, 1), (13, 0), (14, 1), (15, 0), (16, 0), (17, 0), (18, 0), (19, 0)] rfl (by kernel_rfl) ?hSUt ?hTUt
    case hSUt => exact ⟨b4, b2, b3⟩
    refine wpT_pureD (v := ?_) (some 44) rfl rfl (by rfl) (fun w' => ?_) ?_
    rotate_left
    · (go_simp; try with_reducible rfl)
    try simp only [Act.put, List.setIfInBounds_toArray, List.set_cons_zero, List.set_cons_succ]
    refine wpT_pureD (v := ?_) (some 45) rfl rfl (by rfl) (fun w' => ?_) ?_
    rotate_left
    · (go_simp; try with_reducible rfl)
    try simp only [Act.put, List.setIfInBounds_toArray, List.set_cons_zero, List.set_cons_succ]
    refine wpT_pureD (v := ?_) (some 46) rfl rfl (by rfl) (fun w' => ?_) ?_
    rotate_left
    · (go_simp; try with_reducible rfl)
    try simp only [Act.put, List.setIfInBounds_toArray, List.set_cons_zero, List.set_cons_succ]
    refine wpT_pureD (v := ?_) (some 47) rfl rfl (by rfl) (fun w' => ?_) ?_
    rotate_left
    · (go_simp; try with_reducible rfl)
    try simp only [Act.put, List.setIfInBounds_toArray, List.set_cons_zero, List.set_cons_succ]
    refine wpT_readD (v := ?_) (some 48) rfl rfl (by rfl) (fun w' hw => ?_) ?_
    rotate_left
    · (obtain ⟨q0, q1, q2⟩ := hw; go_simp; try with_reducible rfl)
    try simp only [Act.put, List.setIfInBounds_toArray, List.set_cons_zero, List.set_cons_succ]
    refine wpT_pureD (v := ?_) (some 49) rfl rfl (by rfl) (fun w' => ?_) ?_
    rotate_left
    · (go_simp; try with_reducible rfl)
    try simp only [Act.put, List.setIfInBounds_toArray, List.set_cons_zero, List.set_cons_succ]
    refine wpT_pureD (v := ?_) (some 50) rfl rfl (by rfl) (fun w' => ?_) ?_
    rotate_left
    · (go_simp; try with_reducible rfl)
    try simp only [Act.put, List.setIfInBounds_toArray, List.set_cons_zero, List.set_cons_succ]
    refine wpT_readD (v := ?_) (some 51) rfl rfl (by rfl) (fun w' hw => ?_) ?_
    rotate_left
    · (obtain ⟨q0, q1, q2⟩ := hw; go_simp; try with_reducible rfl)
    try simp only [Act.put, List.setIfInBounds_toArray, List.set_cons_zero, List.set_cons_succ]
    refine wpT_pureD (v := ?_) (some 52) rfl rfl (by rfl) (fun w' => ?_) ?_
    rotate_left
    · (go_simp; try with_reducible rfl)
    try simp only [Act.put, List.setIfInBounds_toArray, List.set_cons_zero, List.set_cons_succ]
    refine wpT_pureD (v := ?_) (some 53) rfl rfl (by rfl) (fun w' => ?_) ?_
    rotate_left
    · (go_simp; try with_reducible rfl)
    try simp only [Act.put, List.setIfInBounds_toArray, List.set_cons_zero, List.set_cons_succ]
    refine wpT_pureD (v := ?_) (some 54) rfl rfl (by rfl) (fun w' => ?_) ?_
    rotate_left
    · (go_simp; try with_reducible rfl)
    try simp only [Act.put, List.setIfInBounds_toArray, List.set_cons_zero, List.set_cons_succ]
    refine wpT_pureD (v := ?_) (some 55) rfl rfl (by rfl) (fun w' => ?_) ?_
    rotate_left
    · (go_simp; try with_reducible rfl)
    try simp only [Act.put, List.setIfInBounds_toArray, List.set_cons_zero, List.set_cons_succ]
    refine wpT_readD (v := ?_) (some 56) rfl rfl (by rfl) (fun w' hw => ?_) ?_
    rotate_left
    · (obtain ⟨q0, q1, q2⟩ := hw; go_simp; try with_reducible rfl)
    try simp only [Act.put, List.setIfInBounds_toArray, List.set_cons_zero, List.set_cons_succ]
    refine wpT_pureD (v := ?_) (some 57) rfl rfl (by rfl) (fun w' => ?_) ?_
    rotate_left
    · (go_simp; try with_reducible rfl)
    try simp only [Act.put, List.setIfInBounds_toArray, List.set_cons_zero, List.set_cons_succ]
    refine wpT_readD (v := ?_) (some 58) rfl rfl (by rfl) (fun w' hw => ?_) ?_
    rotate_left
    · (obtain ⟨q0, q1, q2⟩ := hw; go_simp; try with_reducible rfl)
    try simp only [Act.put, List.setIfInBounds_toArray, List.set_cons_zero, List.set_cons_succ]
    refine wpT_pureD (v := ?_) (some 59) rfl rfl (by rfl) (fun w' => ?_) ?_
    rotate_left
    · (go_simp; try with_reducible rfl)
    try simp only [Act.put, List.setIfInBounds_toArray, List.set_cons_zero, List.set_cons_succ]
    refine wpT_pureD (v := ?_) (some 60) rfl rfl (by rfl) (fun w' => ?_) ?_
    rotate_left
    · (go_simp; try with_reducible rfl)
    try simp only [Act.put, List.setIfInBounds_toArray, List.set_cons_zero, List.set_cons_succ]
    refine wpT_pureD (v := ?_) (some 61) rfl rfl (by rfl) (fun w' => ?_) ?_
    rotate_left
    · (go_simp; try with_reducible rfl)
    try simp only [Act.put, List.setIfInBounds_toArray, List.set_cons_zero, List.set_cons_succ]
    refine wpT_pureD (v := ?_) (some 2) rfl rfl (by rfl) (fun w' => ?_) ?_
    rotate_left
    · (go_simp; try with_reducible rfl)
    try simp only [Act.put, List.setIfInBounds_toArray, List.set_cons_zero, List.set_cons_succ]
    refine wpT_pureD (v := ?_) (some 3) rfl rfl (by rfl) (fun w' => ?_) ?_
    rotate_left
    · (go_simp; try with_reducible rfl)
    try simp only [Act.put, List.setIfInBounds_toArray, List.set_cons_zero, List.set_cons_succ]
    refine wpT_end ?_
    go_wp2
    go_ret2
    exact ⟨rfl, (HC.out.drew).drew⟩
set_option maxRecDepth 100000 in
set_option maxHeartbeats 1600000 in
theorem enc_J (op rd rs1 rs2 imm cw : Nat) (hf : formN (op : Int) = 1) (hcw : codesL[op]? = some cw) (hc : cw < 4294967296) (hop : op < 57) (h1 : rd < 32) (h2 : rs1 < 32) (h3 : rs2 < 32) (hi : imm < 4294967296) (W : World) (h : LaidOk W) :
    Calls Tryd.prog 12 #[.agg #[.int .i64 (op : Int), .int .i64 (rd : Int), .int .i64 (rs1 : Int), .int .i64 (rs2 : Int), .int .u32 (imm : Int)]] W fun e w' => e = .returned (.tuple #[.int .u32 ((setJ (cw ||| rd * 128) imm : Nat) : Int), .bool (decide (sx 21 imm = imm) && decide (imm % 2 = 0) && decide (rs1 ||| rs2 = 0))]) ∧ Chg [] W w' := by
  have c0 := h op cw hcw
  obtain ⟨B, hB⟩ : ∃ B, B = W.heap.size := ⟨_, rfl⟩
  obtain ⟨V, hV⟩ : ∃ V, V = (W.alloc (.cells #[.int .i64 (op : Int), .int .i64 (rd : Int), .int .i64 (rs1 : Int), .int .i64 (rs2 : Int), .int .u32 (imm : Int)] 26)).alloc (.cells #[.int .i64 (rd : Int), .int .i64 (rs1 : Int), .int .i64 (rs2 : Int)] 3) := ⟨_, rfl⟩
  have hC : Chg [] W V := by rw [hV]; exact ((Chg.refl _ _).alloc _).alloc _
  have rb : V.row? B = some #[.int .i64 (op : Int), .int .i64 (rd : Int), .int .i64 (rs1 : Int), .int .i64 (rs2 : Int), .int .u32 (imm : Int)] := by
    rw [hV, row_alloc_past _ _ _ (by simp; omega)]; exact row_alloc_at _ _ _ _ hB
  have rr : V.row? (B + 1) = some #[.int .i64 (rd : Int), .int .i64 (rs1 : Int), .int .i64 (rs2 : Int)] := by
    rw [hV]; exact row_alloc_at _ _ _ _ (by simp; omega)
  have c : V.cell? ⟨0, op, none⟩ = some (.int .u32 (cw : Int)) := by
    rw [World.cell?_of_block (w := W) (hC.block 0 (World.block_lt_of_cell? W _ c0) (by simp))]; exact c0
  have HR := Lib.hid (reg_any (w := V) (B := B + 1) (n := 3) (c := 3) [(rd : Int), (rs1 : Int), (rs2 : Int)] rfl (by omega) (fun j u hu => by
    rw [row_cell rr]; revert hu; match j with | 0 => intro hu; cases hu; rfl | 1 => intro hu; cases hu; rfl | 2 => intro hu; cases hu; rfl | _ + 3 => intro hu; cases hu))
  have HF : Hid (∀ w, Calls Tryd.prog 15 #[.int .i64 (op : Int)] w fun e w' => e = .returned (.int .i64 1) ∧ w' = w) := Lib.hid fun w => by rw [← hf]; exact form_any op w
  have b0 : V.cell? ⟨B, 0, none⟩ = some (.int .i64 (op : Int)) := by rw [row_cell rb]; rfl
  have b1 : V.cell? ⟨B, 1, none⟩ = some (.int .i64 (rd : Int)) := by rw [row_cell rb]; rfl
  have b2 : V.cell? ⟨B, 2, none⟩ = some (.int .i64 (rs1 : Int)) := by rw [row_cell rb]; rfl
  have b3 : V.cell? ⟨B, 3, none⟩ = some (.int .i64 (rs2 : Int)) := by rw [row_cell rb]; rfl
  have b4 : V.cell? ⟨B, 4, none⟩ = some (.int .u32 (imm : Int)) := by rw [row_cell rb]; rfl
  have HC := Lib.hid hC
  have hall : ([(rd : Int), (rs1 : Int), (rs2 : Int)] : List Int).all regB = true := by simp [regB]; omega
  have HALL := Lib.hid hall
  have hopI : (op : Int) < 57 := by omega
  have w1 : IntKind.u32.wrap (rd : Int) = rd := by rw [u32w]; omega
  have w2 : IntKind.u32.wrap (rs1 : Int) = rs1 := by rw [u32w]; omega
  have w3 : IntKind.u32.wrap (rs2 : Int) = rs2 := by rw [u32w]; omega
  have m1 : IntKind.u32.wrap ((rd : Int) * 128) = ((rd * 128 : Nat) : Int) := by rw [u32w]; omega
  have m2 : IntKind.u32.wrap ((rs1 : Int) * 32768) = ((rs1 * 32768 : Nat) : Int) := by rw [u32w]; omega
  have m3 : IntKind.u32.wrap ((rs2 : Int) * 1048576) = ((rs2 * 1048576 : Nat) : Int) := by rw [u32w]; omega
  obtain ⟨a1, ha1⟩ : ∃ a, a = rd * 128 := ⟨_, rfl⟩
  obtain ⟨a2, ha2⟩ : ∃ a, a = rs1 * 32768 := ⟨_, rfl⟩
  obtain ⟨a3, ha3⟩ : ∃ a, a = rs2 * 1048576 := ⟨_, rfl⟩
  rw [← ha1] at m1
  rw [← ha2] at m2
  rw [← ha3] at m3
  have l1 : a1 < 4294967296 := by omega
  have l2 : a2 < 4294967296 := by omega
  have l3 : a3 < 4294967296 := by omega
  have e1 : bits .or .u32 (cw : Int) (a1 : Int) = ((cw ||| a1 : Nat) : Int) := or32 _ _ hc l1
  have hb1 := or_lt hc l1
  obtain ⟨d1, hd1⟩ : ∃ d, d = cw ||| a1 := ⟨_, rfl⟩
  rw [← hd1] at e1 hb1
  obtain ⟨R, hR⟩ : ∃ R, R = setJ d1 imm := ⟨_, rfl⟩
  have hres : setJ (cw ||| rd * 128) imm = R := by rw [hR, hd1, ha1]
  rw [hres]
  have SI : Hid (∀ w, Calls Tryd.prog 25 #[.int .u32 (d1 : Int), .int .u32 (imm : Int)] w fun e w' => e = .returned (.int .u32 (R : Int)) ∧ w' = w) := Lib.hid (by rw [hR]; exact setJ_any d1 imm)
  obtain ⟨q, hq⟩ : ∃ q, q = decide (sx 21 imm = imm) := ⟨_, rfl⟩
  have FI : Hid (∀ w, Calls Tryd.prog 35 #[.int .u32 (imm : Int), .int .i64 21] w fun e w' => e = .returned (.bool q) ∧ w' = w) := Lib.hid fun w => by rw [hq]; exact fits_any imm 21 hi (.inr (.inr rfl)) w
  rw [← hq]
  have zp : ((imm : Int).tmod 2 == 0) = decide (imm % 2 = 0) := by rw [Int.tmod_eq_emod_of_nonneg (by omega), Bool.eq_iff_iff]; simp; omega
  obtain ⟨p, hp⟩ : ∃ p, p = decide (imm % 2 = 0) := ⟨_, rfl⟩
  rw [← hp] at zp ⊢
  have zr : (bits .or .i64 (rs1 : Int) (rs2 : Int) == 0) = decide (rs1 ||| rs2 = 0) := by rw [or64 _ _ (by omega) (by omega)]; exact eqz _
  obtain ⟨r, hr⟩ : ∃ p, p = decide (rs1 ||| rs2 = 0) := ⟨_, rfl⟩
  rw [← hr] at zr ⊢
  clear hd1 hb1 ha1 ha2 ha3 hq hp hr hR hres
  clear h c0 hC rb rr hall hf hcw hc hop h1 h2 h3 hi l1 l2 l3
  go_enter Tryd.func12, Tryd.ntmps12
  go_wp2_with fail
  refine (HF.out _).mono ?_
  rintro e w' ⟨rfl, rfl⟩
  go_wp2_with fail
  rw [← hB, ← hV]
  clear hV hB
  refine HR.out.mono ?_
  rintro e w' ⟨rfl, rfl⟩
  rw [HALL.out]
  go_wp2_with fail
  refine wp_region_C (fun w => w.cell? ⟨B, 1, none⟩ = some (.int .i64 (rd : Int)) ∧ w.cell? ⟨B, 2, none⟩ = some (.int .i64 (rs1 : Int)) ∧ w.cell? ⟨B, 3, none⟩ = some (.int .i64 (rs2 : Int))) [(0, 0), (1, 1), (2, 0), (3, 0), (4, 0), (5, 1), (6, 0), (7, 0), (8, 0), (9, 1), (10, 0), (11, 0), (12, 0), (13, 0), (14, 0)] rfl (by kernel_rfl) ?hSA ?hTA
  case hSA => exact ⟨b1, b2, b3⟩
  refine wpT_pureD (v := ?_) (some 27) rfl rfl (by rfl) (fun w' => ?_) ?_
  rotate_left
  · (go_simp; try with_reducible rfl)
  try simp only [Act.put, List.setIfInBounds_toArray, List.set_cons_zero, List.set_cons_succ]
  refine wpT_readD (v := ?_) (some 28) rfl rfl (by rfl) (fun w' hw => ?_) ?_
  rotate_left
  · (obtain ⟨q0, q1, q2⟩ := hw; go_simp; try with_reducible rfl)
  try simp only [Act.put, List.setIfInBounds_toArray, List.set_cons_zero, List.set_cons_succ]
  refine wpT_pureD (v := ?_) (some 29) rfl rfl (by rfl) (fun w' => ?_) ?_
  rotate_left
  · (go_simp; try with_reducible rfl)
  try simp only [Act.put, List.setIfInBounds_toArray, List.set_cons_zero, List.set_cons_succ]
  refine wpT_pureD (v := ?_) (some 30) rfl rfl (by rfl) (fun w' => ?_) ?_
  rotate_left
  · (go_simp; try with_reducible rfl)
  try simp only [Act.put, List.setIfInBounds_toArray, List.set_cons_zero, List.set_cons_succ]
  refine wpT_pureD (v := ?_) (some 31) rfl rfl (by rfl) (fun w' => ?_) ?_
  rotate_left
  · (go_simp; try with_reducible rfl)
  try simp only [Act.put, List.setIfInBounds_toArray, List.set_cons_zero, List.set_cons_succ]
  refine wpT_readD (v := ?_) (some 32) rfl rfl (by rfl) (fun w' hw => ?_) ?_
  rotate_left
  · (obtain ⟨q0, q1, q2⟩ := hw; go_simp; try with_reducible rfl)
  try simp only [Act.put, List.setIfInBounds_toArray, List.set_cons_zero, List.set_cons_succ]
  refine wpT_pureD (v := ?_) (some 33) rfl rfl (by rfl) (fun w' => ?_) ?_
  rotate_left
  · (go_simp; try with_reducible rfl)
  try simp only [Act.put, List.setIfInBounds_toArray, List.set_cons_zero, List.set_cons_succ]
  refine wpT_pureD (v := ?_) (some 34) rfl rfl (by rfl) (fun w' => ?_) ?_
  rotate_left
  · (go_simp; try with_reducible rfl)
  try simp only [Act.put, List.setIfInBounds_toArray, List.set_cons_zero, List.set_cons_succ]
  refine wpT_pureD (v := ?_) (some 35) rfl rfl (by rfl) (fun w' => ?_) ?_
  rotate_left
  · (go_simp; try with_reducible rfl)
  try simp only [Act.put, List.setIfInBounds_toArray, List.set_cons_zero, List.set_cons_succ]
  refine wpT_readD (v := ?_) (some 36) rfl rfl (by rfl) (fun w' hw => ?_) ?_
  rotate_left
  · (obtain ⟨q0, q1, q2⟩ := hw; go_simp; try with_reducible rfl)
  try simp only [Act.put, List.setIfInBounds_toArray, List.set_cons_zero, List.set_cons_succ]
  refine wpT_pureD (v := ?_) (some 37) rfl rfl (by rfl) (fun w' => ?_) ?_
  rotate_left
  · (go_simp; try with_reducible rfl)
  try simp only [Act.put, List.setIfInBounds_toArray, List.set_cons_zero, List.set_cons_succ]
  refine wpT_pureD (v := ?_) (some 38) rfl rfl (by rfl) (fun w' => ?_) ?_
  rotate_left
  · (go_simp; try with_reducible rfl)
  try simp only [Act.put, List.setIfInBounds_toArray, List.set_cons_zero, List.set_cons_succ]
  refine wpT_pureD (v := ?_) (some 5) rfl rfl (by rfl) (fun w' => ?_) ?_
  rotate_left
  · (go_simp; try with_reducible rfl)
  try simp only [Act.put, List.setIfInBounds_toArray, List.set_cons_zero, List.set_cons_succ]
  refine wpT_pureD (v := ?_) (some 6) rfl rfl (by rfl) (fun w' => ?_) ?_
  rotate_left
  · (go_simp; try with_reducible rfl)
  try simp only [Act.put, List.setIfInBounds_toArray, List.set_cons_zero, List.set_cons_succ]
  refine wpT_pureD (v := ?_) (some 7) rfl rfl (by rfl) (fun w' => ?_) ?_
  rotate_left
  · (go_simp; try with_reducible rfl)
  try simp only [Act.put, List.setIfInBounds_toArray, List.set_cons_zero, List.set_cons_succ]
  refine wpT_end ?_
  go_wp2_with fail
  refine (HF.out _).mono ?_
  rintro e w'' ⟨rfl, rfl⟩
  cases q
  · go_wp2_with fail
    refine wp_region_C (fun w => w.cell? ⟨B, 4, none⟩ = some (.int .u32 (imm : Int)) ∧ w.cell? ⟨B, 2, none⟩ = some (.int .i64 (rs1 : Int)) ∧ w.cell? ⟨B, 3, none⟩ = some (.int .i64 (rs2 : Int))) [(0, 0), (1, 0), (2, 0), (3, 0), (4, 1), (5, 0), (6, 0), (7, 1), (8, 0), (9, 0), (10, 0), (11, 1), (12, 0), (13, 0), (14, 0), (15, 0), (16, 0), (17, 1), (18, 0), (19, 1), (20, 0), (21, 0), (22, 0), (23, 0), (24, 0)] rfl (by kernel_rfl) ?hSJf ?hTJf
    case hSJf => exact ⟨b4, b2, b3⟩
    refine wpT_pureD (v := ?_) (some 64) rfl rfl (by rfl) (fun w' => ?_) ?_
    rotate_left
    · (go_simp; try with_reducible rfl)
    try simp only [Act.put, List.setIfInBounds_toArray, List.set_cons_zero, List.set_cons_succ]
    refine wpT_pureD (v := ?_) (some 65) rfl rfl (by rfl) (fun w' => ?_) ?_
    rotate_left
    · (go_simp; try with_reducible rfl)
    try simp only [Act.put, List.setIfInBounds_toArray, List.set_cons_zero, List.set_cons_succ]
    refine wpT_pureD (v := ?_) (some 66) rfl rfl (by rfl) (fun w' => ?_) ?_
    rotate_left
    · (go_simp; try with_reducible rfl)
    try simp only [Act.put, List.setIfInBounds_toArray, List.set_cons_zero, List.set_cons_succ]
    refine wpT_pureD (v := ?_) (some 67) rfl rfl (by rfl) (fun w' => ?_) ?_
    rotate_left
    · (go_simp; try with_reducible rfl)
    try simp only [Act.put, List.setIfInBounds_toArray, List.set_cons_zero, List.set_cons_succ]
    refine wpT_readD (v := ?_) (some 68) rfl rfl (by rfl) (fun w' hw => ?_) ?_
    rotate_left
    · (obtain ⟨q0, q1, q2⟩ := hw; go_simp; try with_reducible rfl)
    try simp only [Act.put, List.setIfInBounds_toArray, List.set_cons_zero, List.set_cons_succ]
    refine wpT_call (d := some 69) (f := 25) (args := #[.int .u32 (d1 : Int), .int .u32 (imm : Int)]) (v := .int .u32 (R : Int)) rfl rfl (by rfl) (fun w' => by first | rfl | (go_simp; done) | (go_simp; rfl)) (fun w' => SI.out w') ?_
    try simp only [Act.put, List.setIfInBounds_toArray, List.set_cons_zero, List.set_cons_succ]
    try simp only [Act.put, List.setIfInBounds_toArray, List.set_cons_zero, List.set_cons_succ]
    refine wpT_pureD (v := ?_) (some 70) rfl rfl (by rfl) (fun w' => ?_) ?_
    rotate_left
    · (go_simp; try with_reducible rfl)
    try simp only [Act.put, List.setIfInBounds_toArray, List.set_cons_zero, List.set_cons_succ]
    refine wpT_readD (v := ?_) (some 71) rfl rfl (by rfl) (fun w' hw => ?_) ?_
    rotate_left
    · (obtain ⟨q0, q1, q2⟩ := hw; go_simp; try with_reducible rfl)
    try simp only [Act.put, List.setIfInBounds_toArray, List.set_cons_zero, List.set_cons_succ]
    refine wpT_call (d := some 72) (f := 35) (args := #[.int .u32 (imm : Int), .int .i64 21]) (v := .bool false) rfl rfl (by rfl) (fun w' => by first | rfl | (go_simp; done) | (go_simp; rfl)) (fun w' => FI.out w') ?_
    try simp only [Act.put, List.setIfInBounds_toArray, List.set_cons_zero, List.set_cons_succ]
    try simp only [Act.put, List.setIfInBounds_toArray, List.set_cons_zero, List.set_cons_succ]
    refine wpT_pureD (v := ?_) (some 73) rfl rfl (by rfl) (fun w' => ?_) ?_
    rotate_left
    · (go_simp; try with_reducible rfl)
    try simp only [Act.put, List.setIfInBounds_toArray, List.set_cons_zero, List.set_cons_succ]
    refine wpT_skipD (some 74) rfl rfl (by rfl) ?_
    try simp only [Act.put, List.setIfInBounds_toArray, List.set_cons_zero, List.set_cons_succ]
    refine wpT_skipD (some 75) rfl rfl (by rfl) ?_
    try simp only [Act.put, List.setIfInBounds_toArray, List.set_cons_zero, List.set_cons_succ]
    refine wpT_skipD (some 76) rfl rfl (by rfl) ?_
    try simp only [Act.put, List.setIfInBounds_toArray, List.set_cons_zero, List.set_cons_succ]
    refine wpT_skipD (some 77) rfl rfl (by rfl) ?_
    try simp only [Act.put, List.setIfInBounds_toArray, List.set_cons_zero, List.set_cons_succ]
    refine wpT_pureD (v := ?_) (some 78) rfl rfl (by rfl) (fun w' => ?_) ?_
    rotate_left
    · (go_simp; try with_reducible rfl)
    try simp only [Act.put, List.setIfInBounds_toArray, List.set_cons_zero, List.set_cons_succ]
    refine wpT_pureD (v := ?_) (some 79) rfl rfl (by rfl) (fun w' => ?_) ?_
    rotate_left
    · (go_simp; try with_reducible rfl)
    try simp only [Act.put, List.setIfInBounds_toArray, List.set_cons_zero, List.set_cons_succ]
    refine wpT_skipD (some 80) rfl rfl (by rfl) ?_
    try simp only [Act.put, List.setIfInBounds_toArray, List.set_cons_zero, List.set_cons_succ]
    refine wpT_skipD (some 81) rfl rfl (by rfl) ?_
    try simp only [Act.put, List.setIfInBounds_toArray, List.set_cons_zero, List.set_cons_succ]
    refine wpT_skipD (some 82) rfl rfl (by rfl) ?_
    try simp only [Act.put, List.setIfInBounds_toArray, List.set_cons_zero, List.set_cons_succ]
    refine wpT_skipD (some 83) rfl rfl (by rfl) ?_
    try simp only [Act.put, List.setIfInBounds_toArray, List.set_cons_zero, List.set_cons_succ]
    refine wpT_skipD (some 84) rfl rfl (by rfl) ?_
    try simp only [Act.put, List.setIfInBounds_toArray, List.set_cons_zero, List.set_cons_succ]
    refine wpT_skipD (some 85) rfl rfl (by rfl) ?_
    try simp only [Act.put, List.setIfInBounds_toArray, List.set_cons_zero, List.set_cons_succ]
    refine wpT_pureD (v := ?_) (some 86) rfl rfl (by rfl) (fun w' => ?_) ?_
    rotate_left
    · (go_simp; try with_reducible rfl)
    try simp only [Act.put, List.setIfInBounds_toArray, List.set_cons_zero, List.set_cons_succ]
    refine wpT_pureD (v := ?_) (some 2) rfl rfl (by rfl) (fun w' => ?_) ?_
    rotate_left
    · (go_simp; try with_reducible rfl)
    try simp only [Act.put, List.setIfInBounds_toArray, List.set_cons_zero, List.set_cons_succ]
    refine wpT_pureD (v := ?_) (some 3) rfl rfl (by rfl) (fun w' => ?_) ?_
    rotate_left
    · (go_simp; try with_reducible rfl)
    try simp only [Act.put, List.setIfInBounds_toArray, List.set_cons_zero, List.set_cons_succ]
    refine wpT_end ?_
    go_wp2
    go_ret2
    exact ⟨rfl, (HC.out.drew).drew⟩
  · cases p
    · go_wp2_with fail
      refine wp_region_C (fun w => w.cell? ⟨B, 4, none⟩ = some (.int .u32 (imm : Int)) ∧ w.cell? ⟨B, 2, none⟩ = some (.int .i64 (rs1 : Int)) ∧ w.cell? ⟨B, 3, none⟩ = some (.int .i64 (rs2 : Int))) [(0, 0), (1, 0), (2, 0), (3, 0), (4, 1), (5, 0), (6, 0), (7, 1), (8, 0), (9, 0), (10, 0), (11, 1), (12, 0), (13, 0), (14, 0), (15, 0), (16, 0), (17, 1), (18, 0), (19, 1), (20, 0), (21, 0), (22, 0), (23, 0), (24, 0)] rfl (by kernel_rfl) ?hSJtf ?hTJtf
      case hSJtf => exact ⟨b4, b2, b3⟩
      refine wpT_pureD (v := ?_) (some 64) rfl rfl (by rfl) (fun w' => ?_) ?_
      rotate_left
      · (go_simp; try with_reducible rfl)
      try simp only [Act.put, List.setIfInBounds_toArray, List.set_cons_zero, List.set_cons_succ]
      refine wpT_pureD (v := ?_) (some 65) rfl rfl (by rfl) (fun w' => ?_) ?_
      rotate_left
      · (go_simp; try with_reducible rfl)
      try simp only [Act.put, List.setIfInBounds_toArray, List.set_cons_zero, List.set_cons_succ]
      refine wpT_pureD (v := ?_) (some 66) rfl rfl (by rfl) (fun w' => ?_) ?_
      rotate_left
      · (go_simp; try with_reducible rfl)
      try simp only [Act.put, List.setIfInBounds_toArray, List.set_cons_zero, List.set_cons_succ]
      refine wpT_pureD (v := ?_) (some 67) rfl rfl (by rfl) (fun w' => ?_) ?_
      rotate_left
      · (go_simp; try with_reducible rfl)
      try simp only [Act.put, List.setIfInBounds_toArray, List.set_cons_zero, List.set_cons_succ]
      refine wpT_readD (v := ?_) (some 68) rfl rfl (by rfl) (fun w' hw => ?_) ?_
      rotate_left
      · (obtain ⟨q0, q1, q2⟩ := hw; go_simp; try with_reducible rfl)
      try simp only [Act.put, List.setIfInBounds_toArray, List.set_cons_zero, List.set_cons_succ]
      refine wpT_call (d := some 69) (f := 25) (args := #[.int .u32 (d1 : Int), .int .u32 (imm : Int)]) (v := .int .u32 (R : Int)) rfl rfl (by rfl) (fun w' => by first | rfl | (go_simp; done) | (go_simp; rfl)) (fun w' => SI.out w') ?_
      try simp only [Act.put, List.setIfInBounds_toArray, List.set_cons_zero, List.set_cons_succ]
      try simp only [Act.put, List.setIfInBounds_toArray, List.set_cons_zero, List.set_cons_succ]
      refine wpT_pureD (v := ?_) (some 70) rfl rfl (by rfl) (fun w' => ?_) ?_
      rotate_left
      · (go_simp; try with_reducible rfl)
      try simp only [Act.put, List.setIfInBounds_toArray, List.set_cons_zero, List.set_cons_succ]
      refine wpT_readD (v := ?_) (some 71) rfl rfl (by rfl) (fun w' hw => ?_) ?_
      rotate_left
      · (obtain ⟨q0, q1, q2⟩ := hw; go_simp; try with_reducible rfl)
      try simp only [Act.put, List.setIfInBounds_toArray, List.set_cons_zero, List.set_cons_succ]
      refine wpT_call (d := some 72) (f := 35) (args := #[.int .u32 (imm : Int), .int .i64 21]) (v := .bool true) rfl rfl (by rfl) (fun w' => by first | rfl | (go_simp; done) | (go_simp; rfl)) (fun w' => FI.out w') ?_
      try simp only [Act.put, List.setIfInBounds_toArray, List.set_cons_zero, List.set_cons_succ]
      try simp only [Act.put, List.setIfInBounds_toArray, List.set_cons_zero, List.set_cons_succ]
      refine wpT_pureD (v := ?_) (some 73) rfl rfl (by rfl) (fun w' => ?_) ?_
      rotate_left
      · (go_simp; try with_reducible rfl)
      try simp only [Act.put, List.setIfInBounds_toArray, List.set_cons_zero, List.set_cons_succ]
      refine wpT_pureD (v := ?_) (some 74) rfl rfl (by rfl) (fun w' => ?_) ?_
      rotate_left
      · (go_simp; try with_reducible rfl)
      try simp only [Act.put, List.setIfInBounds_toArray, List.set_cons_zero, List.set_cons_succ]
      refine wpT_readD (v := ?_) (some 75) rfl rfl (by rfl) (fun w' hw => ?_) ?_
      rotate_left
      · (obtain ⟨q0, q1, q2⟩ := hw; go_simp; try with_reducible rfl)
      try simp only [Act.put, List.setIfInBounds_toArray, List.set_cons_zero, List.set_cons_succ]
      refine wpT_pureD (v := ?_) (some 76) rfl rfl (by rfl) (fun w' => ?_) ?_
      rotate_left
      · (go_simp; try with_reducible rfl)
      try simp only [Act.put, List.setIfInBounds_toArray, List.set_cons_zero, List.set_cons_succ]
      refine wpT_pureD (v := ?_) (some 77) rfl rfl (by rfl) (fun w' => ?_) ?_
      rotate_left
      · (go_simp; try with_reducible rfl)
      try simp only [Act.put, List.setIfInBounds_toArray, List.set_cons_zero, List.set_cons_succ]
      refine wpT_pureD (v := ?_) (some 78) rfl rfl (by rfl) (fun w' => ?_) ?_
      rotate_left
      · (go_simp; try with_reducible rfl)
      try simp only [Act.put, List.setIfInBounds_toArray, List.set_cons_zero, List.set_cons_succ]
      refine wpT_pureD (v := ?_) (some 79) rfl rfl (by rfl) (fun w' => ?_) ?_
      rotate_left
      · (go_simp; try with_reducible rfl)
      try simp only [Act.put, List.setIfInBounds_toArray, List.set_cons_zero, List.set_cons_succ]
      refine wpT_skipD (some 80) rfl rfl (by rfl) ?_
      try simp only [Act.put, List.setIfInBounds_toArray, List.set_cons_zero, List.set_cons_succ]
      refine wpT_skipD (some 81) rfl rfl (by rfl) ?_
      try simp only [Act.put, List.setIfInBounds_toArray, List.set_cons_zero, List.set_cons_succ]
      refine wpT_skipD (some 82) rfl rfl (by rfl) ?_
      try simp only [Act.put, List.setIfInBounds_toArray, List.set_cons_zero, List.set_cons_succ]
      refine wpT_skipD (some 83) rfl rfl (by rfl) ?_
      try simp only [Act.put, List.setIfInBounds_toArray, List.set_cons_zero, List.set_cons_succ]
      refine wpT_skipD (some 84) rfl rfl (by rfl) ?_
      try simp only [Act.put, List.setIfInBounds_toArray, List.set_cons_zero, List.set_cons_succ]
      refine wpT_skipD (some 85) rfl rfl (by rfl) ?_
      try simp only [Act.put, List.setIfInBounds_toArray, List.set_cons_zero, List.set_cons_succ]
      refine wpT_pureD (v := ?_) (some 86) rfl rfl (by rfl) (fun w' => ?_) ?_
      rotate_left
      · (go_simp; try with_reducible rfl)
      try simp only [Act.put, List.setIfInBounds_toArray, List.set_cons_zero, List.set_cons_succ]
      refine wpT_pureD (v := ?_) (some 2) rfl rfl (by rfl) (fun w' => ?_) ?_
      rotate_left
      · (go_simp; try with_reducible rfl)
      try simp only [Act.put, List.setIfInBounds_toArray, List.set_cons_zero, List.set_cons_succ]
      refine wpT_pureD (v := ?_) (some 3) rfl rfl (by rfl) (fun w' => ?_) ?_
      rotate_left
      · (go_simp; try with_reducible rfl)
      try simp only [Act.put, List.setIfInBounds_toArray, List.set_cons_zero, List.set_cons_succ]
      refine wpT_end ?_
      go_wp2
      go_ret2
      exact ⟨rfl, (HC.out.drew).drew⟩
    · go_wp2_with fail
      refine wp_region_C (fun w => w.cell? ⟨B, 4, none⟩ = some (.int .u32 (imm : Int)) ∧ w.cell? ⟨B, 2, none⟩ = some (.int .i64 (rs1 : Int)) ∧ w.cell? ⟨B, 3, none⟩ = some (.int .i64 (rs2 : Int))) [(0, 0), (1, 0), (2, 0), (3, 0), (4, 1), (5, 0), (6, 0), (7, 1), (8, 0), (9, 0), (10, 0), (11, 1), (12, 0), (13, 0), (14, 0), (15, 0), (16, 0), (17, 1), (18, 0), (19, 1), (20, 0), (21, 0), (22, 0), (23, 0), (24, 0)] rfl (by kernel_rfl) ?hSJtt ?hTJtt
      case hSJtt => exact ⟨b4, b2, b3⟩
      refine wpT_pureD (v := ?_) (some 64) rfl rfl (by rfl) (fun w' => ?_) ?_
      rotate_left
      · (go_simp; try with_reducible rfl)
      try simp only [Act.put, List.setIfInBounds_toArray, List.set_cons_zero, List.set_cons_succ]
      refine wpT_pureD (v := ?_) (some 65) rfl rfl (by rfl) (fun w' => ?_) ?_
      rotate_left
      · (go_simp; try with_reducible rfl)
      try simp only [Act.put, List.setIfInBounds_toArray, List.set_cons_zero, List.set_cons_succ]
      refine wpT_pureD (v := ?_) (some 66) rfl rfl (by rfl) (fun w' => ?_) ?_
      rotate_left
      · (go_simp; try with_reducible rfl)
      try simp only [Act.put, List.setIfInBounds_toArray, List.set_cons_zero, List.set_cons_succ]
      refine wpT_pureD (v := ?_) (some 67) rfl rfl (by rfl) (fun w' => ?_) ?_
      rotate_left
      · (go_simp; try with_reducible rfl)
      try simp only [Act.put, List.setIfInBounds_toArray, List.set_cons_zero, List.set_cons_succ]
      refine wpT_readD (v := ?_) (some 68) rfl rfl (by rfl) (fun w' hw => ?_) ?_
      rotate_left
      · (obtain ⟨q0, q1, q2⟩ := hw; go_simp; try with_reducible rfl)
      try simp only [Act.put, List.setIfInBounds_toArray, List.set_cons_zero, List.set_cons_succ]
      refine wpT_call (d := some 69) (f := 25) (args := #[.int .u32 (d1 : Int), .int .u32 (imm : Int)]) (v := .int .u32 (R : Int)) rfl rfl (by rfl) (fun w' => by first | rfl | (go_simp; done) | (go_simp; rfl)) (fun w' => SI.out w') ?_
      try simp only [Act.put, List.setIfInBounds_toArray, List.set_cons_zero, List.set_cons_succ]
      try simp only [Act.put, List.setIfInBounds_toArray, List.set_cons_zero, List.set_cons_succ]
      refine wpT_pureD (v := ?_) (some 70) rfl rfl (by rfl) (fun w' => ?_) ?_
      rotate_left
      · (go_simp; try with_reducible rfl)
      try simp only [Act.put, List.setIfInBounds_toArray, List.set_cons_zero, List.set_cons_succ]
      refine wpT_readD (v := ?_) (some 71) rfl rfl (by rfl) (fun w' hw => ?_) ?_
      rotate_left
      · (obtain ⟨q0, q1, q2⟩ := hw; go_simp; try with_reducible rfl)
      try simp only [Act.put, List.setIfInBounds_toArray, List.set_cons_zero, List.set_cons_succ]
      refine wpT_call (d := some 72) (f := 35) (args := #[.int .u32 (imm : Int), .int .i64 21]) (v := .bool true) rfl rfl (by rfl) (fun w' => by first | rfl | (go_simp; done) | (go_simp; rfl)) (fun w' => FI.out w') ?_
      try simp only [Act.put, List.setIfInBounds_toArray, List.set_cons_zero, List.set_cons_succ]
      try simp only [Act.put, List.setIfInBounds_toArray, List.set_cons_zero, List.set_cons_succ]
      refine wpT_pureD (v := ?_) (some 73) rfl rfl (by rfl) (fun w' => ?_) ?_
      rotate_left
      · (go_simp; try with_reducible rfl)
      try simp only [Act.put, List.setIfInBounds_toArray, List.set_cons_zero, List.set_cons_succ]
      refine wpT_pureD (v := ?_) (some 74) rfl rfl (by rfl) (fun w' => ?_) ?_
      rotate_left
      · (go_simp; try with_reducible rfl)
      try simp only [Act.put, List.setIfInBounds_toArray, List.set_cons_zero, List.set_cons_succ]
      refine wpT_readD (v := ?_) (some 75) rfl rfl (by rfl) (fun w' hw => ?_) ?_
      rotate_left
      · (obtain ⟨q0, q1, q2⟩ := hw; go_simp; try with_reducible rfl)
      try simp only [Act.put, List.setIfInBounds_toArray, List.set_cons_zero, List.set_cons_succ]
      refine wpT_pureD (v := ?_) (some 76) rfl rfl (by rfl) (fun w' => ?_) ?_
      rotate_left
      · (go_simp; try with_reducible rfl)
      try simp only [Act.put, List.setIfInBounds_toArray, List.set_cons_zero, List.set_cons_succ]
      refine wpT_pureD (v := ?_) (some 77) rfl rfl (by rfl) (fun w' => ?_) ?_
      rotate_left
      · (go_simp; try with_reducible rfl)
      try simp only [Act.put, List.setIfInBounds_toArray, List.set_cons_zero, List.set_cons_succ]
      refine wpT_pureD (v := ?_) (some 78) rfl rfl (by rfl) (fun w' => ?_) ?_
      rotate_left
      · (go_simp; try with_reducible rfl)
      try simp only [Act.put, List.setIfInBounds_toArray, List.set_cons_zero, List.set_cons_succ]
      refine wpT_pureD (v := ?_) (some 79) rfl rfl (by rfl) (fun w' => ?_) ?_
      rotate_left
      · (go_simp; try with_reducible rfl)
      try simp only [Act.put, List.setIfInBounds_toArray, List.set_cons_zero, List.set_cons_succ]
      refine wpT_pureD (v := ?_) (some 80) rfl rfl (by rfl) (fun w' => ?_) ?_
      rotate_left
      · (go_simp; try with_reducible rfl)
      try simp only [Act.put, List.setIfInBounds_toArray, List.set_cons_zero, List.set_cons_succ]
      refine wpT_readD (v := ?_) (some 81) rfl rfl (by rfl) (fun w' hw => ?_) ?_
      rotate_left
      · (obtain ⟨q0, q1, q2⟩ := hw; go_simp; try with_reducible rfl)
      try simp only [Act.put, List.setIfInBounds_toArray, List.set_cons_zero, List.set_cons_succ]
      refine wpT_pureD (v := ?_) (some 82) rfl rfl (by rfl) (fun w' => ?_) ?_
      rotate_left
      · (go_simp; try with_reducible rfl)
      try simp only [Act.put, List.setIfInBounds_toArray, List.set_cons_zero, List.set_cons_succ]
      refine wpT_readD (v := ?_) (some 83) rfl rfl (by rfl) (fun w' hw => ?_) ?_
      rotate_left
      · (obtain ⟨q0, q1, q2⟩ := hw; go_simp; try with_reducible rfl)
      try simp only [Act.put, List.setIfInBounds_toArray, List.set_cons_zero, List.set_cons_succ]
      refine wpT_pureD (v := ?_) (some 84) rfl rfl (by rfl) (fun w' => ?_) ?_
      rotate_left
      · (go_simp; try with_reducible rfl)
      try simp only [Act.put, List.setIfInBounds_toArray, List.set_cons_zero, List.set_cons_succ]
      refine wpT_pureD (v := ?_) (some 85) rfl rfl (by rfl) (fun w' => ?_) ?_
      rotate_left
      · (go_simp; try with_reducible rfl)
      try simp only [Act.put, List.setIfInBounds_toArray, List.set_cons_zero, List.set_cons_succ]
      refine wpT_pureD (v := ?_) (some 86) rfl rfl (by rfl) (fun w' => ?_) ?_
      rotate_left
      · (go_simp; try with_reducible rfl)
      try simp only [Act.put, List.setIfInBounds_toArray, List.set_cons_zero, List.set_cons_succ]
      refine wpT_pureD (v := ?_) (some 2) rfl rfl (by rfl) (fun w' => ?_) ?_
      rotate_left
      · (go_simp; try with_reducible rfl)
      try simp only [Act.put, List.setIfInBounds_toArray, List.set_cons_zero, List.set_cons_succ]
      refine wpT_pureD (v := ?_) (some 3) rfl rfl (by rfl) (fun w' => ?_) ?_
      rotate_left
      · (go_simp; try with_reducible rfl)
      try simp only [Act.put, List.setIfInBounds_toArray, List.set_cons_zero, List.set_cons_succ]
      refine wpT_end ?_
      go_wp2
      go_ret2
      exact ⟨rfl, (HC.out.drew).drew⟩
set_option maxRecDepth 100000 in
set_option maxHeartbeats 1600000 in
theorem enc_I (op rd rs1 rs2 imm cw : Nat) (hf : formN (op : Int) = 2) (hcw : codesL[op]? = some cw) (hc : cw < 4294967296) (hop : op < 57) (h1 : rd < 32) (h2 : rs1 < 32) (h3 : rs2 < 32) (hi : imm < 4294967296) (W : World) (h : LaidOk W) :
    Calls Tryd.prog 12 #[.agg #[.int .i64 (op : Int), .int .i64 (rd : Int), .int .i64 (rs1 : Int), .int .i64 (rs2 : Int), .int .u32 (imm : Int)]] W fun e w' => e = .returned (.tuple #[.int .u32 ((setI (cw ||| rd * 128 ||| rs1 * 32768) imm : Nat) : Int), .bool (decide (sx 12 imm = imm) && decide (rs2 = 0))]) ∧ Chg [] W w' := by
  have c0 := h op cw hcw
  obtain ⟨B, hB⟩ : ∃ B, B = W.heap.size := ⟨_, rfl⟩
  obtain ⟨V, hV⟩ : ∃ V, V = (W.alloc (.cells #[.int .i64 (op : Int), .int .i64 (rd : Int), .int .i64 (rs1 : Int), .int .i64 (rs2 : Int), .int .u32 (imm : Int)] 26)).alloc (.cells #[.int .i64 (rd : Int), .int .i64 (rs1 : Int), .int .i64 (rs2 : Int)] 3) := ⟨_, rfl⟩
  have hC : Chg [] W V := by rw [hV]; exact ((Chg.refl _ _).alloc _).alloc _
  have rb : V.row? B = some #[.int .i64 (op : Int), .int .i64 (rd : Int), .int .i64 (rs1 : Int), .int .i64 (rs2 : Int), .int .u32 (imm : Int)] := by
    rw [hV, row_alloc_past _ _ _ (by simp; omega)]; exact row_alloc_at _ _ _ _ hB
  have rr : V.row? (B + 1) = some #[.int .i64 (rd : Int), .int .i64 (rs1 : Int), .int .i64 (rs2 : Int)] := by
    rw [hV]; exact row_alloc_at _ _ _ _ (by simp; omega)
  have c : V.cell? ⟨0, op, none⟩ = some (.int .u32 (cw : Int)) := by
    rw [World.cell?_of_block (w := W) (hC.block 0 (World.block_lt_of_cell? W _ c0) (by simp))]; exact c0
  have HR := Lib.hid (reg_any (w := V) (B := B + 1) (n := 3) (c := 3) [(rd : Int), (rs1 : Int), (rs2 : Int)] rfl (by omega) (fun j u hu => by
    rw [row_cell rr]; revert hu; match j with | 0 => intro hu; cases hu; rfl | 1 => intro hu; cases hu; rfl | 2 => intro hu; cases hu; rfl | _ + 3 => intro hu; cases hu))
  have HF : Hid (∀ w, Calls Tryd.prog 15 #[.int .i64 (op : Int)] w fun e w' => e = .returned (.int .i64 2) ∧ w' = w) := Lib.hid fun w => by rw [← hf]; exact form_any op w
  have b0 : V.cell? ⟨B, 0, none⟩ = some (.int .i64 (op : Int)) := by rw [row_cell rb]; rfl
  have b1 : V.cell? ⟨B, 1, none⟩ = some (.int .i64 (rd : Int)) := by rw [row_cell rb]; rfl
  have b2 : V.cell? ⟨B, 2, none⟩ = some (.int .i64 (rs1 : Int)) := by rw [row_cell rb]; rfl
  have b3 : V.cell? ⟨B, 3, none⟩ = some (.int .i64 (rs2 : Int)) := by rw [row_cell rb]; rfl
  have b4 : V.cell? ⟨B, 4, none⟩ = some (.int .u32 (imm : Int)) := by rw [row_cell rb]; rfl
  have HC := Lib.hid hC
  have hall : ([(rd : Int), (rs1 : Int), (rs2 : Int)] : List Int).all regB = true := by simp [regB]; omega
  have HALL := Lib.hid hall
  have hopI : (op : Int) < 57 := by omega
  have w1 : IntKind.u32.wrap (rd : Int) = rd := by rw [u32w]; omega
  have w2 : IntKind.u32.wrap (rs1 : Int) = rs1 := by rw [u32w]; omega
  have w3 : IntKind.u32.wrap (rs2 : Int) = rs2 := by rw [u32w]; omega
  have m1 : IntKind.u32.wrap ((rd : Int) * 128) = ((rd * 128 : Nat) : Int) := by rw [u32w]; omega
  have m2 : IntKind.u32.wrap ((rs1 : Int) * 32768) = ((rs1 * 32768 : Nat) : Int) := by rw [u32w]; omega
  have m3 : IntKind.u32.wrap ((rs2 : Int) * 1048576) = ((rs2 * 1048576 : Nat) : Int) := by rw [u32w]; omega
  obtain ⟨a1, ha1⟩ : ∃ a, a = rd * 128 := ⟨_, rfl⟩
  obtain ⟨a2, ha2⟩ : ∃ a, a = rs1 * 32768 := ⟨_, rfl⟩
  obtain ⟨a3, ha3⟩ : ∃ a, a = rs2 * 1048576 := ⟨_, rfl⟩
  rw [← ha1] at m1
  rw [← ha2] at m2
  rw [← ha3] at m3
  have l1 : a1 < 4294967296 := by omega
  have l2 : a2 < 4294967296 := by omega
  have l3 : a3 < 4294967296 := by omega
  have e1 : bits .or .u32 (cw : Int) (a1 : Int) = ((cw ||| a1 : Nat) : Int) := or32 _ _ hc l1
  have hb1 := or_lt hc l1
  obtain ⟨d1, hd1⟩ : ∃ d, d = cw ||| a1 := ⟨_, rfl⟩
  rw [← hd1] at e1 hb1
  have e2 : bits .or .u32 (d1 : Int) (a2 : Int) = ((d1 ||| a2 : Nat) : Int) := or32 _ _ hb1 l2
  have hb2 := or_lt hb1 l2
  obtain ⟨d2, hd2⟩ : ∃ d, d = d1 ||| a2 := ⟨_, rfl⟩
  rw [← hd2] at e2 hb2
  obtain ⟨R, hR⟩ : ∃ R, R = setI d2 imm := ⟨_, rfl⟩
  have hres : setI (cw ||| rd * 128 ||| rs1 * 32768) imm = R := by rw [hR, hd2, hd1, ha1, ha2]
  rw [hres]
  have SI : Hid (∀ w, Calls Tryd.prog 21 #[.int .u32 (d2 : Int), .int .u32 (imm : Int)] w fun e w' => e = .returned (.int .u32 (R : Int)) ∧ w' = w) := Lib.hid (by rw [hR]; exact setI_any d2 imm)
  obtain ⟨q, hq⟩ : ∃ q, q = decide (sx 12 imm = imm) := ⟨_, rfl⟩
  have FI : Hid (∀ w, Calls Tryd.prog 35 #[.int .u32 (imm : Int), .int .i64 12] w fun e w' => e = .returned (.bool q) ∧ w' = w) := Lib.hid fun w => by rw [hq]; exact fits_any imm 12 hi (.inl rfl) w
  rw [← hq]
  have zp : ((rs2 : Int) == 0) = decide (rs2 = 0) := eqz rs2
  obtain ⟨p, hp⟩ : ∃ p, p = decide (rs2 = 0) := ⟨_, rfl⟩
  rw [← hp] at zp ⊢
  clear hd2 hd1 hb2 hb1 ha1 ha2 ha3 hq hp hR hres
  clear h c0 hC rb rr hall hf hcw hc hop h1 h2 h3 hi l1 l2 l3
  go_enter Tryd.func12, Tryd.ntmps12
  go_wp2_with fail
  refine (HF.out _).mono ?_
  rintro e w' ⟨rfl, rfl⟩
  go_wp2_with fail
  rw [← hB, ← hV]
  clear hV hB
  refine HR.out.mono ?_
  rintro e w' ⟨rfl, rfl⟩
  rw [HALL.out]
  go_wp2_with fail
  refine wp_region_C (fun w => w.cell? ⟨B, 1, none⟩ = some (.int .i64 (rd : Int)) ∧ w.cell? ⟨B, 2, none⟩ = some (.int .i64 (rs1 : Int)) ∧ w.cell? ⟨B, 3, none⟩ = some (.int .i64 (rs2 : Int))) [(0, 0), (1, 1), (2, 0), (3, 0), (4, 0), (5, 1), (6, 0), (7, 0), (8, 0), (9, 1), (10, 0), (11, 0), (12, 0), (13, 0), (14, 0)] rfl (by kernel_rfl) ?hSA ?hTA
  case hSA => exact ⟨b1, b2, b3⟩
  refine wpT_pureD (v := ?_) (some 27) rfl rfl (by rfl) (fun w' => ?_) ?_
  rotate_left
  · (go_simp; try with_reducible rfl)
  try simp only [Act.put, List.setIfInBounds_toArray, List.set_cons_zero, List.set_cons_succ]
  refine wpT_readD (v := ?_) (some 28) rfl rfl (by rfl) (fun w' hw => ?_) ?_
  rotate_left
  · (obtain ⟨q0, q1, q2⟩ := hw; go_simp; try with_reducible rfl)
  try simp only [Act.put, List.setIfInBounds_toArray, List.set_cons_zero, List.set_cons_succ]
  refine wpT_pureD (v := ?_) (some 29) rfl rfl (by rfl) (fun w' => ?_) ?_
  rotate_left
  · (go_simp; try with_reducible rfl)
  try simp only [Act.put, List.setIfInBounds_toArray, List.set_cons_zero, List.set_cons_succ]
  refine wpT_pureD (v := ?_) (some 30) rfl rfl (by rfl) (fun w' => ?_) ?_
  rotate_left
  · (go_simp; try with_reducible rfl)
  try simp only [Act.put, List.setIfInBounds_toArray, List.set_cons_zero, List.set_cons_succ]
  refine wpT_pureD (v := ?_) (some 31) rfl rfl (by rfl) (fun w' => ?_) ?_
  rotate_left
  · (go_simp; try with_reducible rfl)
  try simp only [Act.put, List.setIfInBounds_toArray, List.set_cons_zero, List.set_cons_succ]
  refine wpT_readD (v := ?_) (some 32) rfl rfl (by rfl) (fun w' hw => ?_) ?_
  rotate_left
  · (obtain ⟨q0, q1, q2⟩ := hw; go_simp; try with_reducible rfl)
  try simp only [Act.put, List.setIfInBounds_toArray, List.set_cons_zero, List.set_cons_succ]
  refine wpT_pureD (v := ?_) (some 33) rfl rfl (by rfl) (fun w' => ?_) ?_
  rotate_left
  · (go_simp; try with_reducible rfl)
  try simp only [Act.put, List.setIfInBounds_toArray, List.set_cons_zero, List.set_cons_succ]
  refine wpT_pureD (v := ?_) (some 34) rfl rfl (by rfl) (fun w' => ?_) ?_
  rotate_left
  · (go_simp; try with_reducible rfl)
  try simp only [Act.put, List.setIfInBounds_toArray, List.set_cons_zero, List.set_cons_succ]
  refine wpT_pureD (v := ?_) (some 35) rfl rfl (by rfl) (fun w' => ?_) ?_
  rotate_left
  · (go_simp; try with_reducible rfl)
  try simp only [Act.put, List.setIfInBounds_toArray, List.set_cons_zero, List.set_cons_succ]
  refine wpT_readD (v := ?_) (some 36) rfl rfl (by rfl) (fun w' hw => ?_) ?_
  rotate_left
  · (obtain ⟨q0, q1, q2⟩ := hw; go_simp; try with_reducible rfl)
  try simp only [Act.put, List.setIfInBounds_toArray, List.set_cons_zero, List.set_cons_succ]
  refine wpT_pureD (v := ?_) (some 37) rfl rfl (by rfl) (fun w' => ?_) ?_
  rotate_left
  · (go_simp; try with_reducible rfl)
  try simp only [Act.put, List.setIfInBounds_toArray, List.set_cons_zero, List.set_cons_succ]
  refine wpT_pureD (v := ?_) (some 38) rfl rfl (by rfl) (fun w' => ?_) ?_
  rotate_left
  · (go_simp; try with_reducible rfl)
  try simp only [Act.put, List.setIfInBounds_toArray, List.set_cons_zero, List.set_cons_succ]
  refine wpT_pureD (v := ?_) (some 5) rfl rfl (by rfl) (fun w' => ?_) ?_
  rotate_left
  · (go_simp; try with_reducible rfl)
  try simp only [Act.put, List.setIfInBounds_toArray, List.set_cons_zero, List.set_cons_succ]
  refine wpT_pureD (v := ?_) (some 6) rfl rfl (by rfl) (fun w' => ?_) ?_
  rotate_left
  · (go_simp; try with_reducible rfl)
  try simp only [Act.put, List.setIfInBounds_toArray, List.set_cons_zero, List.set_cons_succ]
  refine wpT_pureD (v := ?_) (some 7) rfl rfl (by rfl) (fun w' => ?_) ?_
  rotate_left
  · (go_simp; try with_reducible rfl)
  try simp only [Act.put, List.setIfInBounds_toArray, List.set_cons_zero, List.set_cons_succ]
  refine wpT_end ?_
  go_wp2_with fail
  refine (HF.out _).mono ?_
  rintro e w'' ⟨rfl, rfl⟩
  cases q
  · go_wp2_with fail
    refine wp_region_C (fun w => w.cell? ⟨B, 4, none⟩ = some (.int .u32 (imm : Int)) ∧ w.cell? ⟨B, 3, none⟩ = some (.int .i64 (rs2 : Int))) [(0, 0), (1, 0), (2, 0), (3, 0), (4, 0), (5, 0), (6, 1), (7, 0), (8, 0), (9, 1), (10, 0), (11, 0), (12, 0), (13, 1), (14, 0), (15, 0), (16, 0), (17, 0)] rfl (by kernel_rfl) ?hSIf ?hTIf
    case hSIf => exact ⟨b4, b3⟩
    refine wpT_pureD (v := ?_) (some 89) rfl rfl (by rfl) (fun w' => ?_) ?_
    rotate_left
    · (go_simp; try with_reducible rfl)
    try simp only [Act.put, List.setIfInBounds_toArray, List.set_cons_zero, List.set_cons_succ]
    refine wpT_pureD (v := ?_) (some 90) rfl rfl (by rfl) (fun w' => ?_) ?_
    rotate_left
    · (go_simp; try with_reducible rfl)
    try simp only [Act.put, List.setIfInBounds_toArray, List.set_cons_zero, List.set_cons_succ]
    refine wpT_pureD (v := ?_) (some 91) rfl rfl (by rfl) (fun w' => ?_) ?_
    rotate_left
    · (go_simp; try with_reducible rfl)
    try simp only [Act.put, List.setIfInBounds_toArray, List.set_cons_zero, List.set_cons_succ]
    refine wpT_pureD (v := ?_) (some 92) rfl rfl (by rfl) (fun w' => ?_) ?_
    rotate_left
    · (go_simp; try with_reducible rfl)
    try simp only [Act.put, List.setIfInBounds_toArray, List.set_cons_zero, List.set_cons_succ]
    refine wpT_pureD (v := ?_) (some 93) rfl rfl (by rfl) (fun w' => ?_) ?_
    rotate_left
    · (go_simp; try with_reducible rfl)
    try simp only [Act.put, List.setIfInBounds_toArray, List.set_cons_zero, List.set_cons_succ]
    refine wpT_pureD (v := ?_) (some 94) rfl rfl (by rfl) (fun w' => ?_) ?_
    rotate_left
    · (go_simp; try with_reducible rfl)
    try simp only [Act.put, List.setIfInBounds_toArray, List.set_cons_zero, List.set_cons_succ]
    refine wpT_readD (v := ?_) (some 95) rfl rfl (by rfl) (fun w' hw => ?_) ?_
    rotate_left
    · (obtain ⟨q0, q1⟩ := hw; go_simp; try with_reducible rfl)
    try simp only [Act.put, List.setIfInBounds_toArray, List.set_cons_zero, List.set_cons_succ]
    refine wpT_call (d := some 96) (f := 21) (args := #[.int .u32 (d2 : Int), .int .u32 (imm : Int)]) (v := .int .u32 (R : Int)) rfl rfl (by rfl) (fun w' => by first | rfl | (go_simp; done) | (go_simp; rfl)) (fun w' => SI.out w') ?_
    try simp only [Act.put, List.setIfInBounds_toArray, List.set_cons_zero, List.set_cons_succ]
    try simp only [Act.put, List.setIfInBounds_toArray, List.set_cons_zero, List.set_cons_succ]
    refine wpT_pureD (v := ?_) (some 97) rfl rfl (by rfl) (fun w' => ?_) ?_
    rotate_left
    · (go_simp; try with_reducible rfl)
    try simp only [Act.put, List.setIfInBounds_toArray, List.set_cons_zero, List.set_cons_succ]
    refine wpT_readD (v := ?_) (some 98) rfl rfl (by rfl) (fun w' hw => ?_) ?_
    rotate_left
    · (obtain ⟨q0, q1⟩ := hw; go_simp; try with_reducible rfl)
    try simp only [Act.put, List.setIfInBounds_toArray, List.set_cons_zero, List.set_cons_succ]
    refine wpT_call (d := some 99) (f := 35) (args := #[.int .u32 (imm : Int), .int .i64 12]) (v := .bool false) rfl rfl (by rfl) (fun w' => by first | rfl | (go_simp; done) | (go_simp; rfl)) (fun w' => FI.out w') ?_
    try simp only [Act.put, List.setIfInBounds_toArray, List.set_cons_zero, List.set_cons_succ]
    try simp only [Act.put, List.setIfInBounds_toArray, List.set_cons_zero, List.set_cons_succ]
    refine wpT_pureD (v := ?_) (some 100) rfl rfl (by rfl) (fun w' => ?_) ?_
    rotate_left
    · (go_simp; try with_reducible rfl)
    try simp only [Act.put, List.setIfInBounds_toArray, List.set_cons_zero, List.set_cons_succ]
    refine wpT_skipD (some 101) rfl rfl (by rfl) ?_
    try simp only [Act.put, List.setIfInBounds_toArray, List.set_cons_zero, List.set_cons_succ]
    refine wpT_skipD (some 102) rfl rfl (by rfl) ?_
    try simp only [Act.put, List.setIfInBounds_toArray, List.set_cons_zero, List.set_cons_succ]
    refine wpT_skipD (some 103) rfl rfl (by rfl) ?_
    try simp only [Act.put, List.setIfInBounds_toArray, List.set_cons_zero, List.set_cons_succ]
    refine wpT_pureD (v := ?_) (some 104) rfl rfl (by rfl) (fun w' => ?_) ?_
    rotate_left
    · (go_simp; try with_reducible rfl)
    try simp only [Act.put, List.setIfInBounds_toArray, List.set_cons_zero, List.set_cons_succ]
    refine wpT_pureD (v := ?_) (some 2) rfl rfl (by rfl) (fun w' => ?_) ?_
    rotate_left
    · (go_simp; try with_reducible rfl)
    try simp only [Act.put, List.setIfInBounds_toArray, List.set_cons_zero, List.set_cons_succ]
    refine wpT_pureD (v := ?_) (some 3) rfl rfl (by rfl) (fun w' => ?_) ?_
    rotate_left
    · (go_simp; try with_reducible rfl)
    try simp only [Act.put, List.setIfInBounds_toArray, List.set_cons_zero, List.set_cons_succ]
    refine wpT_end ?_
    go_wp2
    go_ret2
    exact ⟨rfl, (HC.out.drew).drew⟩
  · go_wp2_with fail
    refine wp_region_C (fun w => w.cell? ⟨B, 4, none⟩ = some (.int .u32 (imm : Int)) ∧ w.cell? ⟨B, 3, none⟩ = some (.int .i64 (rs2 : Int))) [(0, 0), (1, 0), (2, 0), (3, 0), (4, 0), (5, 0), (6, 1), (7, 0), (8, 0), (9, 1), (10, 0), (11, 0), (12, 0), (13, 1), (14, 0), (15, 0), (16, 0), (17, 0)] rfl (by kernel_rfl) ?hSIt ?hTIt
    case hSIt => exact ⟨b4, b3⟩
    refine wpT_pureD (v := ?_) (some 89) rfl rfl (by rfl) (fun w' => ?_) ?_
    rotate_left
    · (go_simp; try with_reducible rfl)
    try simp only [Act.put, List.setIfInBounds_toArray, List.set_cons_zero, List.set_cons_succ]
    refine wpT_pureD (v := ?_) (some 90) rfl rfl (by rfl) (fun w' => ?_) ?_
    rotate_left
    · (go_simp; try with_reducible rfl)
    try simp only [Act.put, List.setIfInBounds_toArray, List.set_cons_zero, List.set_cons_succ]
    refine wpT_pureD (v := ?_) (some 91) rfl rfl (by rfl) (fun w' => ?_) ?_
    rotate_left
    · (go_simp; try with_reducible rfl)
    try simp only [Act.put, List.setIfInBounds_toArray, List.set_cons_zero, List.set_cons_succ]
    refine wpT_pureD (v := ?_) (some 92) rfl rfl (by rfl) (fun w' => ?_) ?_
    rotate_left
    · (go_simp; try with_reducible rfl)
    try simp only [Act.put, List.setIfInBounds_toArray, List.set_cons_zero, List.set_cons_succ]
    refine wpT_pureD (v := ?_) (some 93) rfl rfl (by rfl) (fun w' => ?_) ?_
    rotate_left
    · (go_simp; try with_reducible rfl)
    try simp only [Act.put, List.setIfInBounds_toArray, List.set_cons_zero, List.set_cons_succ]
    refine wpT_pureD (v := ?_) (some 94) rfl rfl (by rfl) (fun w' => ?_) ?_
    rotate_left
    · (go_simp; try with_reducible rfl)
    try simp only [Act.put, List.setIfInBounds_toArray, List.set_cons_zero, List.set_cons_succ]
    refine wpT_readD (v := ?_) (some 95) rfl rfl (by rfl) (fun w' hw => ?_) ?_
    rotate_left
    · (obtain ⟨q0, q1⟩ := hw; go_simp; try with_reducible rfl)
    try simp only [Act.put, List.setIfInBounds_toArray, List.set_cons_zero, List.set_cons_succ]
    refine wpT_call (d := some 96) (f := 21) (args := #[.int .u32 (d2 : Int), .int .u32 (imm : Int)]) (v := .int .u32 (R : Int)) rfl rfl (by rfl) (fun w' => by first | rfl | (go_simp; done) | (go_simp; rfl)) (fun w' => SI.out w') ?_
    try simp only [Act.put, List.setIfInBounds_toArray, List.set_cons_zero, List.set_cons_succ]
    try simp only [Act.put, List.setIfInBounds_toArray, List.set_cons_zero, List.set_cons_succ]
    refine wpT_pureD (v := ?_) (some 97) rfl rfl (by rfl) (fun w' => ?_) ?_
    rotate_left
    · (go_simp; try with_reducible rfl)
    try simp only [Act.put, List.setIfInBounds_toArray, List.set_cons_zero, List.set_cons_succ]
    refine wpT_readD (v := ?_) (some 98) rfl rfl (by rfl) (fun w' hw => ?_) ?_
    rotate_left
    · (obtain ⟨q0, q1⟩ := hw; go_simp; try with_reducible rfl)
    try simp only [Act.put, List.setIfInBounds_toArray, List.set_cons_zero, List.set_cons_succ]
    refine wpT_call (d := some 99) (f := 35) (args := #[.int .u32 (imm : Int), .int .i64 12]) (v := .bool true) rfl rfl (by rfl) (fun w' => by first | rfl | (go_simp; done) | (go_simp; rfl)) (fun w' => FI.out w') ?_
    try simp only [Act.put, List.setIfInBounds_toArray, List.set_cons_zero, List.set_cons_succ]
    try simp only [Act.put, List.setIfInBounds_toArray, List.set_cons_zero, List.set_cons_succ]
    refine wpT_pureD (v := ?_) (some 100) rfl rfl (by rfl) (fun w' => ?_) ?_
    rotate_left
    · (go_simp; try with_reducible rfl)
    try simp only [Act.put, List.setIfInBounds_toArray, List.set_cons_zero, List.set_cons_succ]
    refine wpT_pureD (v := ?_) (some 101) rfl rfl (by rfl) (fun w' => ?_) ?_
    rotate_left
    · (go_simp; try with_reducible rfl)
    try simp only [Act.put, List.setIfInBounds_toArray, List.set_cons_zero, List.set_cons_succ]
    refine wpT_readD (v := ?_) (some 102) rfl rfl (by rfl) (fun w' hw => ?_) ?_
    rotate_left
    · (obtain ⟨q0, q1⟩ := hw; go_simp; try with_reducible rfl)
    try simp only [Act.put, List.setIfInBounds_toArray, List.set_cons_zero, List.set_cons_succ]
    refine wpT_pureD (v := ?_) (some 103) rfl rfl (by rfl) (fun w' => ?_) ?_
    rotate_left
    · (go_simp; try with_reducible rfl)
    try simp only [Act.put, List.setIfInBounds_toArray, List.set_cons_zero, List.set_cons_succ]
    refine wpT_pureD (v := ?_) (some 104) rfl rfl (by rfl) (fun w' => ?_) ?_
    rotate_left
    · (go_simp; try with_reducible rfl)
    try simp only [Act.put, List.setIfInBounds_toArray, List.set_cons_zero, List.set_cons_succ]
    refine wpT_pureD (v := ?_) (some 2) rfl rfl (by rfl) (fun w' => ?_) ?_
    rotate_left
    · (go_simp; try with_reducible rfl)
    try simp only [Act.put, List.setIfInBounds_toArray, List.set_cons_zero, List.set_cons_succ]
    refine wpT_pureD (v := ?_) (some 3) rfl rfl (by rfl) (fun w' => ?_) ?_
    rotate_left
    · (go_simp; try with_reducible rfl)
    try simp only [Act.put, List.setIfInBounds_toArray, List.set_cons_zero, List.set_cons_succ]
    refine wpT_end ?_
    go_wp2
    go_ret2
    exact ⟨rfl, (HC.out.drew).drew⟩
set_option maxRecDepth 100000 in
set_option maxHeartbeats 1600000 in
theorem enc_B (op rd rs1 rs2 imm cw : Nat) (hf : formN (op : Int) = 3) (hcw : codesL[op]? = some cw) (hc : cw < 4294967296) (hop : op < 57) (h1 : rd < 32) (h2 : rs1 < 32) (h3 : rs2 < 32) (hi : imm < 4294967296) (W : World) (h : LaidOk W) :
    Calls Tryd.prog 12 #[.agg #[.int .i64 (op : Int), .int .i64 (rd : Int), .int .i64 (rs1 : Int), .int .i64 (rs2 : Int), .int .u32 (imm : Int)]] W fun e w' => e = .returned (.tuple #[.int .u32 ((setB (cw ||| rs1 * 32768 ||| rs2 * 1048576) imm : Nat) : Int), .bool (decide (sx 13 imm = imm) && decide (imm % 2 = 0) && decide (rd = 0))]) ∧ Chg [] W w' := by
  have c0 := h op cw hcw
  obtain ⟨B, hB⟩ : ∃ B, B = W.heap.size := ⟨_, rfl⟩
  obtain ⟨V, hV⟩ : ∃ V, V = (W.alloc (.cells #[.int .i64 (op : Int), .int .i64 (rd : Int), .int .i64 (rs1 : Int), .int .i64 (rs2 : Int), .int .u32 (imm : Int)] 26)).alloc (.cells #[.int .i64 (rd : Int), .int .i64 (rs1 : Int), .int .i64 (rs2 : Int)] 3) := ⟨_, rfl⟩
  have hC : Chg [] W V := by rw [hV]; exact ((Chg.refl _ _).alloc _).alloc _
  have rb : V.row? B = some #[.int .i64 (op : Int), .int .i64 (rd : Int), .int .i64 (rs1 : Int), .int .i64 (rs2 : Int), .int .u32 (imm : Int)] := by
    rw [hV, row_alloc_past _ _ _ (by simp; omega)]; exact row_alloc_at _ _ _ _ hB
  have rr : V.row? (B + 1) = some #[.int .i64 (rd : Int), .int .i64 (rs1 : Int), .int .i64 (rs2 : Int)] := by
    rw [hV]; exact row_alloc_at _ _ _ _ (by simp; omega)
  have c : V.cell? ⟨0, op, none⟩ = some (.int .u32 (cw : Int)) := by
    rw [World.cell?_of_block (w := W) (hC.block 0 (World.block_lt_of_cell? W _ c0) (by simp))]; exact c0
  have HR := Lib.hid (reg_any (w := V) (B := B + 1) (n := 3) (c := 3) [(rd : Int), (rs1 : Int), (rs2 : Int)] rfl (by omega) (fun j u hu => by
    rw [row_cell rr]; revert hu; match j with | 0 => intro hu; cases hu; rfl | 1 => intro hu; cases hu; rfl | 2 => intro hu; cases hu; rfl | _ + 3 => intro hu; cases hu))
  have HF : Hid (∀ w, Calls Tryd.prog 15 #[.int .i64 (op : Int)] w fun e w' => e = .returned (.int .i64 3) ∧ w' = w) := Lib.hid fun w => by rw [← hf]; exact form_any op w
  have b0 : V.cell? ⟨B, 0, none⟩ = some (.int .i64 (op : Int)) := by rw [row_cell rb]; rfl
  have b1 : V.cell? ⟨B, 1, none⟩ = some (.int .i64 (rd : Int)) := by rw [row_cell rb]; rfl
  have b2 : V.cell? ⟨B, 2, none⟩ = some (.int .i64 (rs1 : Int)) := by rw [row_cell rb]; rfl
  have b3 : V.cell? ⟨B, 3, none⟩ = some (.int .i64 (rs2 : Int)) := by rw [row_cell rb]; rfl
  have b4 : V.cell? ⟨B, 4, none⟩ = some (.int .u32 (imm : Int)) := by rw [row_cell rb]; rfl
  have HC := Lib.hid hC
  have hall : ([(rd : Int), (rs1 : Int), (rs2 : Int)] : List Int).all regB = true := by simp [regB]; omega
  have HALL := Lib.hid hall
  have hopI : (op : Int) < 57 := by omega
  have w1 : IntKind.u32.wrap (rd : Int) = rd := by rw [u32w]; omega
  have w2 : IntKind.u32.wrap (rs1 : Int) = rs1 := by rw [u32w]; omega
  have w3 : IntKind.u32.wrap (rs2 : Int) = rs2 := by rw [u32w]; omega
  have m1 : IntKind.u32.wrap ((rd : Int) * 128) = ((rd * 128 : Nat) : Int) := by rw [u32w]; omega
  have m2 : IntKind.u32.wrap ((rs1 : Int) * 32768) = ((rs1 * 32768 : Nat) : Int) := by rw [u32w]; omega
  have m3 : IntKind.u32.wrap ((rs2 : Int) * 1048576) = ((rs2 * 1048576 : Nat) : Int) := by rw [u32w]; omega
  obtain ⟨a1, ha1⟩ : ∃ a, a = rd * 128 := ⟨_, rfl⟩
  obtain ⟨a2, ha2⟩ : ∃ a, a = rs1 * 32768 := ⟨_, rfl⟩
  obtain ⟨a3, ha3⟩ : ∃ a, a = rs2 * 1048576 := ⟨_, rfl⟩
  rw [← ha1] at m1
  rw [← ha2] at m2
  rw [← ha3] at m3
  have l1 : a1 < 4294967296 := by omega
  have l2 : a2 < 4294967296 := by omega
  have l3 : a3 < 4294967296 := by omega
  have e1 : bits .or .u32 (cw : Int) (a2 : Int) = ((cw ||| a2 : Nat) : Int) := or32 _ _ hc l2
  have hb1 := or_lt hc l2
  obtain ⟨d1, hd1⟩ : ∃ d, d = cw ||| a2 := ⟨_, rfl⟩
  rw [← hd1] at e1 hb1
  have e2 : bits .or .u32 (d1 : Int) (a3 : Int) = ((d1 ||| a3 : Nat) : Int) := or32 _ _ hb1 l3
  have hb2 := or_lt hb1 l3
  obtain ⟨d2, hd2⟩ : ∃ d, d = d1 ||| a3 := ⟨_, rfl⟩
  rw [← hd2] at e2 hb2
  obtain ⟨R, hR⟩ : ∃ R, R = setB d2 imm := ⟨_, rfl⟩
  have hres : setB (cw ||| rs1 * 32768 ||| rs2 * 1048576) imm = R := by rw [hR, hd2, hd1, ha2, ha3]
  rw [hres]
  have SI : Hid (∀ w, Calls Tryd.prog 23 #[.int .u32 (d2 : Int), .int .u32 (imm : Int)] w fun e w' => e = .returned (.int .u32 (R : Int)) ∧ w' = w) := Lib.hid (by rw [hR]; exact setB_any d2 imm)
  obtain ⟨q, hq⟩ : ∃ q, q = decide (sx 13 imm = imm) := ⟨_, rfl⟩
  have FI : Hid (∀ w, Calls Tryd.prog 35 #[.int .u32 (imm : Int), .int .i64 13] w fun e w' => e = .returned (.bool q) ∧ w' = w) := Lib.hid fun w => by rw [hq]; exact fits_any imm 13 hi (.inr (.inl rfl)) w
  rw [← hq]
  have zp : ((imm : Int).tmod 2 == 0) = decide (imm % 2 = 0) := by rw [Int.tmod_eq_emod_of_nonneg (by omega), Bool.eq_iff_iff]; simp; omega
  obtain ⟨p, hp⟩ : ∃ p, p = decide (imm % 2 = 0) := ⟨_, rfl⟩
  rw [← hp] at zp ⊢
  have zr : ((rd : Int) == 0) = decide (rd = 0) := eqz rd
  obtain ⟨r, hr⟩ : ∃ p, p = decide (rd = 0) := ⟨_, rfl⟩
  rw [← hr] at zr ⊢
  clear hd2 hd1 hb2 hb1 ha1 ha2 ha3 hq hp hr hR hres
  clear h c0 hC rb rr hall hf hcw hc hop h1 h2 h3 hi l1 l2 l3
  go_enter Tryd.func12, Tryd.ntmps12
  go_wp2_with fail
  refine (HF.out _).mono ?_
  rintro e w' ⟨rfl, rfl⟩
  go_wp2_with fail
  rw [← hB, ← hV]
  clear hV hB
  refine HR.out.mono ?_
  rintro e w' ⟨rfl, rfl⟩
  rw [HALL.out]
  go_wp2_with fail
  refine wp_region_C (fun w => w.cell? ⟨B, 1, none⟩ = some (.int .i64 (rd : Int)) ∧ w.cell? ⟨B, 2, none⟩ = some (.int .i64 (rs1 : Int)) ∧ w.cell? ⟨B, 3, none⟩ = some (.int .i64 (rs2 : Int))) [(0, 0), (1, 1), (2, 0), (3, 0), (4, 0), (5, 1), (6, 0), (7, 0), (8, 0), (9, 1), (10, 0), (11, 0), (12, 0), (13, 0), (14, 0)] rfl (by kernel_rfl) ?hSA ?hTA
  case hSA => exact ⟨b1, b2, b3⟩
  refine wpT_pureD (v := ?_) (some 27) rfl rfl (by rfl) (fun w' => ?_) ?_
  rotate_left
  · (go_simp; try with_reducible rfl)
  try simp only [Act.put, List.setIfInBounds_toArray, List.set_cons_zero, List.set_cons_succ]
  refine wpT_readD (v := ?_) (some 28) rfl rfl (by rfl) (fun w' hw => ?_) ?_
  rotate_left
  · (obtain ⟨q0, q1, q2⟩ := hw; go_simp; try with_reducible rfl)
  try simp only [Act.put, List.setIfInBounds_toArray, List.set_cons_zero, List.set_cons_succ]
  refine wpT_pureD (v := ?_) (some 29) rfl rfl (by rfl) (fun w' => ?_) ?_
  rotate_left
  · (go_simp; try with_reducible rfl)
  try simp only [Act.put, List.setIfInBounds_toArray, List.set_cons_zero, List.set_cons_succ]
  refine wpT_pureD (v := ?_) (some 30) rfl rfl (by rfl) (fun w' => ?_) ?_
  rotate_left
  · (go_simp; try with_reducible rfl)
  try simp only [Act.put, List.setIfInBounds_toArray, List.set_cons_zero, List.set_cons_succ]
  refine wpT_pureD (v := ?_) (some 31) rfl rfl (by rfl) (fun w' => ?_) ?_
  rotate_left
  · (go_simp; try with_reducible rfl)
  try simp only [Act.put, List.setIfInBounds_toArray, List.set_cons_zero, List.set_cons_succ]
  refine wpT_readD (v := ?_) (some 32) rfl rfl (by rfl) (fun w' hw => ?_) ?_
  rotate_left
  · (obtain ⟨q0, q1, q2⟩ := hw; go_simp; try with_reducible rfl)
  try simp only [Act.put, List.setIfInBounds_toArray, List.set_cons_zero, List.set_cons_succ]
  refine wpT_pureD (v := ?_) (some 33) rfl rfl (by rfl) (fun w' => ?_) ?_
  rotate_left
  · (go_simp; try with_reducible rfl)
  try simp only [Act.put, List.setIfInBounds_toArray, List.set_cons_zero, List.set_cons_succ]
  refine wpT_pureD (v := ?_) (some 34) rfl rfl (by rfl) (fun w' => ?_) ?_
  rotate_left
  · (go_simp; try with_reducible rfl)
  try simp only [Act.put, List.setIfInBounds_toArray, List.set_cons_zero, List.set_cons_succ]
  refine wpT_pureD (v := ?_) (some 35) rfl rfl (by rfl) (fun w' => ?_) ?_
  rotate_left
  · (go_simp; try with_reducible rfl)
  try simp only [Act.put, List.setIfInBounds_toArray, List.set_cons_zero, List.set_cons_succ]
  refine wpT_readD (v := ?_) (some 36) rfl rfl (by rfl) (fun w' hw => ?_) ?_
  rotate_left
  · (obtain ⟨q0, q1, q2⟩ := hw; go_simp; try with_reducible rfl)
  try simp only [Act.put, List.setIfInBounds_toArray, List.set_cons_zero, List.set_cons_succ]
  refine wpT_pureD (v := ?_) (some 37) rfl rfl (by rfl) (fun w' => ?_) ?_
  rotate_left
  · (go_simp; try with_reducible rfl)
  try simp only [Act.put, List.setIfInBounds_toArray, List.set_cons_zero, List.set_cons_succ]
  refine wpT_pureD (v := ?_) (some 38) rfl rfl (by rfl) (fun w' => ?_) ?_
  rotate_left
  · (go_simp; try with_reducible rfl)
  try simp only [Act.put, List.setIfInBounds_toArray, List.set_cons_zero, List.set_cons_succ]
  refine wpT_pureD (v := ?_) (some 5) rfl rfl (by rfl) (fun w' => ?_) ?_
  rotate_left
  · (go_simp; try with_reducible rfl)
  try simp only [Act.put, List.setIfInBounds_toArray, List.set_cons_zero, List.set_cons_succ]
  refine wpT_pureD (v := ?_) (some 6) rfl rfl (by rfl) (fun w' => ?_) ?_
  rotate_left
  · (go_simp; try with_reducible rfl)
  try simp only [Act.put, List.setIfInBounds_toArray, List.set_cons_zero, List.set_cons_succ]
  refine wpT_pureD (v := ?_) (some 7) rfl rfl (by rfl) (fun w' => ?_) ?_
  rotate_left
  · (go_simp; try with_reducible rfl)
  try simp only [Act.put, List.setIfInBounds_toArray, List.set_cons_zero, List.set_cons_succ]
  refine wpT_end ?_
  go_wp2_with fail
  refine (HF.out _).mono ?_
  rintro e w'' ⟨rfl, rfl⟩
  cases q
  · go_wp2_with fail
    refine wp_region_C (fun w => w.cell? ⟨B, 4, none⟩ = some (.int .u32 (imm : Int)) ∧ w.cell? ⟨B, 1, none⟩ = some (.int .i64 (rd : Int))) [(0, 0), (1, 0), (2, 0), (3, 0), (4, 0), (5, 0), (6, 1), (7, 0), (8, 0), (9, 1), (10, 0), (11, 0), (12, 0), (13, 1), (14, 0), (15, 0), (16, 0), (17, 0), (18, 0), (19, 1), (20, 0), (21, 0), (22, 0), (23, 0)] rfl (by kernel_rfl) ?hSBf ?hTBf
    case hSBf => exact ⟨b4, b1⟩
    refine wpT_pureD (v := ?_) (some 107) rfl rfl (by rfl) (fun w' => ?_) ?_
    rotate_left
    · (go_simp; try with_reducible rfl)
    try simp only [Act.put, List.setIfInBounds_toArray, List.set_cons_zero, List.set_cons_succ]
    refine wpT_pureD (v := ?_) (some 108) rfl rfl (by rfl) (fun w' => ?_) ?_
    rotate_left
    · (go_simp; try with_reducible rfl)
    try simp only [Act.put, List.setIfInBounds_toArray, List.set_cons_zero, List.set_cons_succ]
    refine wpT_pureD (v := ?_) (some 109) rfl rfl (by rfl) (fun w' => ?_) ?_
    rotate_left
    · (go_simp; try with_reducible rfl)
    try simp only [Act.put, List.setIfInBounds_toArray, List.set_cons_zero, List.set_cons_succ]
    refine wpT_pureD (v := ?_) (some 110) rfl rfl (by rfl) (fun w' => ?_) ?_
    rotate_left
    · (go_simp; try with_reducible rfl)
    try simp only [Act.put, List.setIfInBounds_toArray, List.set_cons_zero, List.set_cons_succ]
    refine wpT_pureD (v := ?_) (some 111) rfl rfl (by rfl) (fun w' => ?_) ?_
    rotate_left
    · (go_simp; try with_reducible rfl)
    try simp only [Act.put, List.setIfInBounds_toArray, List.set_cons_zero, List.set_cons_succ]
    refine wpT_pureD (v := ?_) (some 112) rfl rfl (by rfl) (fun w' => ?_) ?_
    rotate_left
    · (go_simp; try with_reducible rfl)
    try simp only [Act.put, List.setIfInBounds_toArray, List.set_cons_zero, List.set_cons_succ]
    refine wpT_readD (v := ?_) (some 113) rfl rfl (by rfl) (fun w' hw => ?_) ?_
    rotate_left
    · (obtain ⟨q0, q1⟩ := hw; go_simp; try with_reducible rfl)
    try simp only [Act.put, List.setIfInBounds_toArray, List.set_cons_zero, List.set_cons_succ]
    refine wpT_call (d := some 114) (f := 23) (args := #[.int .u32 (d2 : Int), .int .u32 (imm : Int)]) (v := .int .u32 (R : Int)) rfl rfl (by rfl) (fun w' => by first | rfl | (go_simp; done) | (go_simp; rfl)) (fun w' => SI.out w') ?_
    try simp only [Act.put, List.setIfInBounds_toArray, List.set_cons_zero, List.set_cons_succ]
    try simp only [Act.put, List.setIfInBounds_toArray, List.set_cons_zero, List.set_cons_succ]
    refine wpT_pureD (v := ?_) (some 115) rfl rfl (by rfl) (fun w' => ?_) ?_
    rotate_left
    · (go_simp; try with_reducible rfl)
    try simp only [Act.put, List.setIfInBounds_toArray, List.set_cons_zero, List.set_cons_succ]
    refine wpT_readD (v := ?_) (some 116) rfl rfl (by rfl) (fun w' hw => ?_) ?_
    rotate_left
    · (obtain ⟨q0, q1⟩ := hw; go_simp; try with_reducible rfl)
    try simp only [Act.put, List.setIfInBounds_toArray, List.set_cons_zero, List.set_cons_succ]
    refine wpT_call (d := some 117) (f := 35) (args := #[.int .u32 (imm : Int), .int .i64 13]) (v := .bool false) rfl rfl (by rfl) (fun w' => by first | rfl | (go_simp; done) | (go_simp; rfl)) (fun w' => FI.out w') ?_
    try simp only [Act.put, List.setIfInBounds_toArray, List.set_cons_zero, List.set_cons_succ]
    try simp only [Act.put, List.setIfInBounds_toArray, List.set_cons_zero, List.set_cons_succ]
    refine wpT_pureD (v := ?_) (some 118) rfl rfl (by rfl) (fun w' => ?_) ?_
    rotate_left
    · (go_simp; try with_reducible rfl)
    try simp only [Act.put, List.setIfInBounds_toArray, List.set_cons_zero, List.set_cons_succ]
    refine wpT_skipD (some 119) rfl rfl (by rfl) ?_
    try simp only [Act.put, List.setIfInBounds_toArray, List.set_cons_zero, List.set_cons_succ]
    refine wpT_skipD (some 120) rfl rfl (by rfl) ?_
    try simp only [Act.put, List.setIfInBounds_toArray, List.set_cons_zero, List.set_cons_succ]
    refine wpT_skipD (some 121) rfl rfl (by rfl) ?_
    try simp only [Act.put, List.setIfInBounds_toArray, List.set_cons_zero, List.set_cons_succ]
    refine wpT_skipD (some 122) rfl rfl (by rfl) ?_
    try simp only [Act.put, List.setIfInBounds_toArray, List.set_cons_zero, List.set_cons_succ]
    refine wpT_pureD (v := ?_) (some 123) rfl rfl (by rfl) (fun w' => ?_) ?_
    rotate_left
    · (go_simp; try with_reducible rfl)
    try simp only [Act.put, List.setIfInBounds_toArray, List.set_cons_zero, List.set_cons_succ]
    refine wpT_pureD (v := ?_) (some 124) rfl rfl (by rfl) (fun w' => ?_) ?_
    rotate_left
    · (go_simp; try with_reducible rfl)
    try simp only [Act.put, List.setIfInBounds_toArray, List.set_cons_zero, List.set_cons_succ]
    refine wpT_skipD (some 125) rfl rfl (by rfl) ?_
    try simp only [Act.put, List.setIfInBounds_toArray, List.set_cons_zero, List.set_cons_succ]
    refine wpT_skipD (some 126) rfl rfl (by rfl) ?_
    try simp only [Act.put, List.setIfInBounds_toArray, List.set_cons_zero, List.set_cons_succ]
    refine wpT_skipD (some 127) rfl rfl (by rfl) ?_
    try simp only [Act.put, List.setIfInBounds_toArray, List.set_cons_zero, List.set_cons_succ]
    refine wpT_pureD (v := ?_) (some 128) rfl rfl (by rfl) (fun w' => ?_) ?_
    rotate_left
    · (go_simp; try with_reducible rfl)
    try simp only [Act.put, List.setIfInBounds_toArray, List.set_cons_zero, List.set_cons_succ]
    refine wpT_pureD (v := ?_) (some 2) rfl rfl (by rfl) (fun w' => ?_) ?_
    rotate_left
    · (go_simp; try with_reducible rfl)
    try simp only [Act.put, List.setIfInBounds_toArray, List.set_cons_zero, List.set_cons_succ]
    refine wpT_pureD (v := ?_) (some 3) rfl rfl (by rfl) (fun w' => ?_) ?_
    rotate_left
    · (go_simp; try with_reducible rfl)
    try simp only [Act.put, List.setIfInBounds_toArray, List.set_cons_zero, List.set_cons_succ]
    refine wpT_end ?_
    go_wp2
    go_ret2
    exact ⟨rfl, (HC.out.drew).drew⟩
  · cases p
    · go_wp2_with fail
      refine wp_region_C (fun w => w.cell? ⟨B, 4, none⟩ = some (.int .u32 (imm : Int)) ∧ w.cell? ⟨B, 1, none⟩ = some (.int .i64 (rd : Int))) [(0, 0), (1, 0), (2, 0), (3, 0), (4, 0), (5, 0), (6, 1), (7, 0), (8, 0), (9, 1), (10, 0), (11, 0), (12, 0), (13, 1), (14, 0), (15, 0), (16, 0), (17, 0), (18, 0), (19, 1), (20, 0), (21, 0), (22, 0), (23, 0)] rfl (by kernel_rfl) ?hSBtf ?hTBtf
      case hSBtf => exact ⟨b4, b1⟩
      refine wpT_pureD (v := ?_) (some 107) rfl rfl (by rfl) (fun w' => ?_) ?_
      rotate_left
      · (go_simp; try with_reducible rfl)
      try simp only [Act.put, List.setIfInBounds_toArray, List.set_cons_zero, List.set_cons_succ]
      refine wpT_pureD (v := ?_) (some 108) rfl rfl (by rfl) (fun w' => ?_) ?_
      rotate_left
      · (go_simp; try with_reducible rfl)
      try simp only [Act.put, List.setIfInBounds_toArray, List.set_cons_zero, List.set_cons_succ]
      refine wpT_pureD (v := ?_) (some 109) rfl rfl (by rfl) (fun w' => ?_) ?_
      rotate_left
      · (go_simp; try with_reducible rfl)
      try simp only [Act.put, List.setIfInBounds_toArray, List.set_cons_zero, List.set_cons_succ]
      refine wpT_pureD (v := ?_) (some 110) rfl rfl (by rfl) (fun w' => ?_) ?_
      rotate_left
      · (go_simp; try with_reducible rfl)
      try simp only [Act.put, List.setIfInBounds_toArray, List.set_cons_zero, List.set_cons_succ]
      refine wpT_pureD (v := ?_) (some 111) rfl rfl (by rfl) (fun w' => ?_) ?_
      rotate_left
      · (go_simp; try with_reducible rfl)
      try simp only [Act.put, List.setIfInBounds_toArray, List.set_cons_zero, List.set_cons_succ]
      refine wpT_pureD (v := ?_) (some 112) rfl rfl (by rfl) (fun w' => ?_) ?_
      rotate_left
      · (go_simp; try with_reducible rfl)
      try simp only [Act.put, List.setIfInBounds_toArray, List.set_cons_zero, List.set_cons_succ]
      refine wpT_readD (v := ?_) (some 113) rfl rfl (by rfl) (fun w' hw => ?_) ?_
      rotate_left
      · (obtain ⟨q0, q1⟩ := hw; go_simp; try with_reducible rfl)
      try simp only [Act.put, List.setIfInBounds_toArray, List.set_cons_zero, List.set_cons_succ]
      refine wpT_call (d := some 114) (f := 23) (args := #[.int .u32 (d2 : Int), .int .u32 (imm : Int)]) (v := .int .u32 (R : Int)) rfl rfl (by rfl) (fun w' => by first | rfl | (go_simp; done) | (go_simp; rfl)) (fun w' => SI.out w') ?_
      try simp only [Act.put, List.setIfInBounds_toArray, List.set_cons_zero, List.set_cons_succ]
      try simp only [Act.put, List.setIfInBounds_toArray, List.set_cons_zero, List.set_cons_succ]
      refine wpT_pureD (v := ?_) (some 115) rfl rfl (by rfl) (fun w' => ?_) ?_
      rotate_left
      · (go_simp; try with_reducible rfl)
      try simp only [Act.put, List.setIfInBounds_toArray, List.set_cons_zero, List.set_cons_succ]
      refine wpT_readD (v := ?_) (some 116) rfl rfl (by rfl) (fun w' hw => ?_) ?_
      rotate_left
      · (obtain ⟨q0, q1⟩ := hw; go_simp; try with_reducible rfl)
      try simp only [Act.put, List.setIfInBounds_toArray, List.set_cons_zero, List.set_cons_succ]
      refine wpT_call (d := some 117) (f := 35) (args := #[.int .u32 (imm : Int), .int .i64 13]) (v := .bool true) rfl rfl (by rfl) (fun w' => by first | rfl | (go_simp; done) | (go_simp; rfl)) (fun w' => FI.out w') ?_
      try simp only [Act.put, List.setIfInBounds_toArray, List.set_cons_zero, List.set_cons_succ]
      try simp only [Act.put, List.setIfInBounds_toArray, List.set_cons_zero, List.set_cons_succ]
      refine wpT_pureD (v := ?_) (some 118) rfl rfl (by rfl) (fun w' => ?_) ?_
      rotate_left
      · (go_simp; try with_reducible rfl)
      try simp only [Act.put, List.setIfInBounds_toArray, List.set_cons_zero, List.set_cons_succ]
      refine wpT_pureD (v := ?_) (some 119) rfl rfl (by rfl) (fun w' => ?_) ?_
      rotate_left
      · (go_simp; try with_reducible rfl)
      try simp only [Act.put, List.setIfInBounds_toArray, List.set_cons_zero, List.set_cons_succ]
      refine wpT_readD (v := ?_) (some 120) rfl rfl (by rfl) (fun w' hw => ?_) ?_
      rotate_left
      · (obtain ⟨q0, q1⟩ := hw; go_simp; try with_reducible rfl)
      try simp only [Act.put, List.setIfInBounds_toArray, List.set_cons_zero, List.set_cons_succ]
      refine wpT_pureD (v := ?_) (some 121) rfl rfl (by rfl) (fun w' => ?_) ?_
      rotate_left
      · (go_simp; try with_reducible rfl)
      try simp only [Act.put, List.setIfInBounds_toArray, List.set_cons_zero, List.set_cons_succ]
      refine wpT_pureD (v := ?_) (some 122) rfl rfl (by rfl) (fun w' => ?_) ?_
      rotate_left
      · (go_simp; try with_reducible rfl)
      try simp only [Act.put, List.setIfInBounds_toArray, List.set_cons_zero, List.set_cons_succ]
      refine wpT_pureD (v := ?_) (some 123) rfl rfl (by rfl) (fun w' => ?_) ?_
      rotate_left
      · (go_simp; try with_reducible rfl)
      try simp only [Act.put, List.setIfInBounds_toArray, List.set_cons_zero, List.set_cons_succ]
      refine wpT_pureD (v := ?_) (some 124) rfl rfl (by rfl) (fun w' => ?_) ?_
      rotate_left
      · (go_simp; try with_reducible rfl)
      try simp only [Act.put, List.setIfInBounds_toArray, List.set_cons_zero, List.set_cons_succ]
      refine wpT_skipD (some 125) rfl rfl (by rfl) ?_
      try simp only [Act.put, List.setIfInBounds_toArray, List.set_cons_zero, List.set_cons_succ]
      refine wpT_skipD (some 126) rfl rfl (by rfl) ?_
      try simp only [Act.put, List.setIfInBounds_toArray, List.set_cons_zero, List.set_cons_succ]
      refine wpT_skipD (some 127) rfl rfl (by rfl) ?_
      try simp only [Act.put, List.setIfInBounds_toArray, List.set_cons_zero, List.set_cons_succ]
      refine wpT_pureD (v := ?_) (some 128) rfl rfl (by rfl) (fun w' => ?_) ?_
      rotate_left
      · (go_simp; try with_reducible rfl)
      try simp only [Act.put, List.setIfInBounds_toArray, List.set_cons_zero, List.set_cons_succ]
      refine wpT_pureD (v := ?_) (some 2) rfl rfl (by rfl) (fun w' => ?_) ?_
      rotate_left
      · (go_simp; try with_reducible rfl)
      try simp only [Act.put, List.setIfInBounds_toArray, List.set_cons_zero, List.set_cons_succ]
      refine wpT_pureD (v := ?_) (some 3) rfl rfl (by rfl) (fun w' => ?_) ?_
      rotate_left
      · (go_simp; try with_reducible rfl)
      try simp only [Act.put, List.setIfInBounds_toArray, List.set_cons_zero, List.set_cons_succ]
      refine wpT_end ?_
      go_wp2
      go_ret2
      exact ⟨rfl, (HC.out.drew).drew⟩
    · go_wp2_with fail
      refine wp_region_C (fun w => w.cell? ⟨B, 4, none⟩ = some (.int .u32 (imm : Int)) ∧ w.cell? ⟨B, 1, none⟩ = some (.int .i64 (rd : Int))) [(0, 0), (1, 0), (2, 0), (3, 0), (4, 0), (5, 0), (6, 1), (7, 0), (8, 0), (9, 1), (10, 0), (11, 0), (12, 0), (13, 1), (14, 0), (15, 0), (16, 0), (17, 0), (18, 0), (19, 1), (20, 0), (21, 0), (22, 0), (23, 0)] rfl (by kernel_rfl) ?hSBtt ?hTBtt
      case hSBtt => exact ⟨b4, b1⟩
      refine wpT_pureD (v := ?_) (some 107) rfl rfl (by rfl) (fun w' => ?_) ?_
      rotate_left
      · (go_simp; try with_reducible rfl)
      try simp only [Act.put, List.setIfInBounds_toArray, List.set_cons_zero, List.set_cons_succ]
      refine wpT_pureD (v := ?_) (some 108) rfl rfl (by rfl) (fun w' => ?_) ?_
      rotate_left
      · (go_simp; try with_reducible rfl)
      try simp only [Act.put, List.setIfInBounds_toArray, List.set_cons_zero, List.set_cons_succ]
      refine wpT_pureD (v := ?_) (some 109) rfl rfl (by rfl) (fun w' => ?_) ?_
      rotate_left
      · (go_simp; try with_reducible rfl)
      try simp only [Act.put, List.setIfInBounds_toArray, List.set_cons_zero, List.set_cons_succ]
      refine wpT_pureD (v := ?_) (some 110) rfl rfl (by rfl) (fun w' => ?_) ?_
      rotate_left
      · (go_simp; try with_reducible rfl)
      try simp only [Act.put, List.setIfInBounds_toArray, List.set_cons_zero, List.set_cons_succ]
      refine wpT_pureD (v := ?_) (some 111) rfl rfl (by rfl) (fun w' => ?_) ?_
      rotate_left
      · (go_simp; try with_reducible rfl)
      try simp only [Act.put, List.setIfInBounds_toArray, List.set_cons_zero, List.set_cons_succ]
      refine wpT_pureD (v := ?_) (some 112) rfl rfl (by rfl) (fun w' => ?_) ?_
      rotate_left
      · (go_simp; try with_reducible rfl)
      try simp only [Act.put, List.setIfInBounds_toArray, List.set_cons_zero, List.set_cons_succ]
      refine wpT_readD (v := ?_) (some 113) rfl rfl (by rfl) (fun w' hw => ?_) ?_
      rotate_left
      · (obtain ⟨q0, q1⟩ := hw; go_simp; try with_reducible rfl)
      try simp only [Act.put, List.setIfInBounds_toArray, List.set_cons_zero, List.set_cons_succ]
      refine wpT_call (d := some 114) (f := 23) (args := #[.int .u32 (d2 : Int), .int .u32 (imm : Int)]) (v := .int .u32 (R : Int)) rfl rfl (by rfl) (fun w' => by first | rfl | (go_simp; done) | (go_simp; rfl)) (fun w' => SI.out w') ?_
      try simp only [Act.put, List.setIfInBounds_toArray, List.set_cons_zero, List.set_cons_succ]
      try simp only [Act.put, List.setIfInBounds_toArray, List.set_cons_zero, List.set_cons_succ]
      refine wpT_pureD (v := ?_) (some 115) rfl rfl (by rfl) (fun w' => ?_) ?_
      rotate_left
      · (go_simp; try with_reducible rfl)
      try simp only [Act.put, List.setIfInBounds_toArray, List.set_cons_zero, List.set_cons_succ]
      refine wpT_readD (v := ?_) (some 116) rfl rfl (by rfl) (fun w' hw => ?_) ?_
      rotate_left
      · (obtain ⟨q0, q1⟩ := hw; go_simp; try with_reducible rfl)
      try simp only [Act.put, List.setIfInBounds_toArray, List.set_cons_zero, List.set_cons_succ]
      refine wpT_call (d := some 117) (f := 35) (args := #[.int .u32 (imm : Int), .int .i64 13]) (v := .bool true) rfl rfl (by rfl) (fun w' => by first | rfl | (go_simp; done) | (go_simp; rfl)) (fun w' => FI.out w') ?_
      try simp only [Act.put, List.setIfInBounds_toArray, List.set_cons_zero, List.set_cons_succ]
      try simp only [Act.put, List.setIfInBounds_toArray, List.set_cons_zero, List.set_cons_succ]
      refine wpT_pureD (v := ?_) (some 118) rfl rfl (by rfl) (fun w' => ?_) ?_
      rotate_left
      · (go_simp; try with_reducible rfl)
      try simp only [Act.put, List.setIfInBounds_toArray, List.set_cons_zero, List.set_cons_succ]
      refine wpT_pureD (v := ?_) (some 119) rfl rfl (by rfl) (fun w' => ?_) ?_
      rotate_left
      · (go_simp; try with_reducible rfl)
      try simp only [Act.put, List.setIfInBounds_toArray, List.set_cons_zero, List.set_cons_succ]
      refine wpT_readD (v := ?_) (some 120) rfl rfl (by rfl) (fun w' hw => ?_) ?_
      rotate_left
      · (obtain ⟨q0, q1⟩ := hw; go_simp; try with_reducible rfl)
      try simp only [Act.put, List.setIfInBounds_toArray, List.set_cons_zero, List.set_cons_succ]
      refine wpT_pureD (v := ?_) (some 121) rfl rfl (by rfl) (fun w' => ?_) ?_
      rotate_left
      · (go_simp; try with_reducible rfl)
      try simp only [Act.put, List.setIfInBounds_toArray, List.set_cons_zero, List.set_cons_succ]
      refine wpT_pureD (v := ?_) (some 122) rfl rfl (by rfl) (fun w' => ?_) ?_
      rotate_left
      · (go_simp; try with_reducible rfl)
      try simp only [Act.put, List.setIfInBounds_toArray, List.set_cons_zero, List.set_cons_succ]
      refine wpT_pureD (v := ?_) (some 123) rfl rfl (by rfl) (fun w' => ?_) ?_
      rotate_left
      · (go_simp; try with_reducible rfl)
      try simp only [Act.put, List.setIfInBounds_toArray, List.set_cons_zero, List.set_cons_succ]
      refine wpT_pureD (v := ?_) (some 124) rfl rfl (by rfl) (fun w' => ?_) ?_
      rotate_left
      · (go_simp; try with_reducible rfl)
      try simp only [Act.put, List.setIfInBounds_toArray, List.set_cons_zero, List.set_cons_succ]
      refine wpT_pureD (v := ?_) (some 125) rfl rfl (by rfl) (fun w' => ?_) ?_
      rotate_left
      · (go_simp; try with_reducible rfl)
      try simp only [Act.put, List.setIfInBounds_toArray, List.set_cons_zero, List.set_cons_succ]
      refine wpT_readD (v := ?_) (some 126) rfl rfl (by rfl) (fun w' hw => ?_) ?_
      rotate_left
      · (obtain ⟨q0, q1⟩ := hw; go_simp; try with_reducible rfl)
      try simp only [Act.put, List.setIfInBounds_toArray, List.set_cons_zero, List.set_cons_succ]
      refine wpT_pureD (v := ?_) (some 127) rfl rfl (by rfl) (fun w' => ?_) ?_
      rotate_left
      · (go_simp; try with_reducible rfl)
      try simp only [Act.put, List.setIfInBounds_toArray, List.set_cons_zero, List.set_cons_succ]
      refine wpT_pureD (v := ?_) (some 128) rfl rfl (by rfl) (fun w' => ?_) ?_
      rotate_left
      · (go_simp; try with_reducible rfl)
      try simp only [Act.put, List.setIfInBounds_toArray, List.set_cons_zero, List.set_cons_succ]
      refine wpT_pureD (v := ?_) (some 2) rfl rfl (by rfl) (fun w' => ?_) ?_
      rotate_left
      · (go_simp; try with_reducible rfl)
      try simp only [Act.put, List.setIfInBounds_toArray, List.set_cons_zero, List.set_cons_succ]
      refine wpT_pureD (v := ?_) (some 3) rfl rfl (by rfl) (fun w' => ?_) ?_
      rotate_left
      · (go_simp; try with_reducible rfl)
      try simp only [Act.put, List.setIfInBounds_toArray, List.set_cons_zero, List.set_cons_succ]
      refine wpT_end ?_
      go_wp2
      go_ret2
      exact ⟨rfl, (HC.out.drew).drew⟩
set_option maxRecDepth 100000 in
set_option maxHeartbeats 1600000 in
theorem enc_S (op rd rs1 rs2 imm cw : Nat) (hf : formN (op : Int) = 4) (hcw : codesL[op]? = some cw) (hc : cw < 4294967296) (hop : op < 57) (h1 : rd < 32) (h2 : rs1 < 32) (h3 : rs2 < 32) (hi : imm < 4294967296) (W : World) (h : LaidOk W) :
    Calls Tryd.prog 12 #[.agg #[.int .i64 (op : Int), .int .i64 (rd : Int), .int .i64 (rs1 : Int), .int .i64 (rs2 : Int), .int .u32 (imm : Int)]] W fun e w' => e = .returned (.tuple #[.int .u32 ((setS (cw ||| rs1 * 32768 ||| rs2 * 1048576) imm : Nat) : Int), .bool (decide (sx 12 imm = imm) && decide (rd = 0))]) ∧ Chg [] W w' := by
  have c0 := h op cw hcw
  obtain ⟨B, hB⟩ : ∃ B, B = W.heap.size := ⟨_, rfl⟩
  obtain ⟨V, hV⟩ : ∃ V, V = (W.alloc (.cells #[.int .i64 (op : Int), .int .i64 (rd : Int), .int .i64 (rs1 : Int), .int .i64 (rs2 : Int), .int .u32 (imm : Int)] 26)).alloc (.cells #[.int .i64 (rd : Int), .int .i64 (rs1 : Int), .int .i64 (rs2 : Int)] 3) := ⟨_, rfl⟩
  have hC : Chg [] W V := by rw [hV]; exact ((Chg.refl _ _).alloc _).alloc _
  have rb : V.row? B = some #[.int .i64 (op : Int), .int .i64 (rd : Int), .int .i64 (rs1 : Int), .int .i64 (rs2 : Int), .int .u32 (imm : Int)] := by
    rw [hV, row_alloc_past _ _ _ (by simp; omega)]; exact row_alloc_at _ _ _ _ hB
  have rr : V.row? (B + 1) = some #[.int .i64 (rd : Int), .int .i64 (rs1 : Int), .int .i64 (rs2 : Int)] := by
    rw [hV]; exact row_alloc_at _ _ _ _ (by simp; omega)
  have c : V.cell? ⟨0, op, none⟩ = some (.int .u32 (cw : Int)) := by
    rw [World.cell?_of_block (w := W) (hC.block 0 (World.block_lt_of_cell? W _ c0) (by simp))]; exact c0
  have HR := Lib.hid (reg_any (w := V) (B := B + 1) (n := 3) (c := 3) [(rd : Int), (rs1 : Int), (rs2 : Int)] rfl (by omega) (fun j u hu => by
    rw [row_cell rr]; revert hu; match j with | 0 => intro hu; cases hu; rfl | 1 => intro hu; cases hu; rfl | 2 => intro hu; cases hu; rfl | _ + 3 => intro hu; cases hu))
  have HF : Hid (∀ w, Calls Tryd.prog 15 #[.int .i64 (op : Int)] w fun e w' => e = .returned (.int .i64 4) ∧ w' = w) := Lib.hid fun w => by rw [← hf]; exact form_any op w
  have b0 : V.cell? ⟨B, 0, none⟩ = some (.int .i64 (op : Int)) := by rw [row_cell rb]; rfl
  have b1 : V.cell? ⟨B, 1, none⟩ = some (.int .i64 (rd : Int)) := by rw [row_cell rb]; rfl
  have b2 : V.cell? ⟨B, 2, none⟩ = some (.int .i64 (rs1 : Int)) := by rw [row_cell rb]; rfl
  have b3 : V.cell? ⟨B, 3, none⟩ = some (.int .i64 (rs2 : Int)) := by rw [row_cell rb]; rfl
  have b4 : V.cell? ⟨B, 4, none⟩ = some (.int .u32 (imm : Int)) := by rw [row_cell rb]; rfl
  have HC := Lib.hid hC
  have hall : ([(rd : Int), (rs1 : Int), (rs2 : Int)] : List Int).all regB = true := by simp [regB]; omega
  have HALL := Lib.hid hall
  have hopI : (op : Int) < 57 := by omega
  have w1 : IntKind.u32.wrap (rd : Int) = rd := by rw [u32w]; omega
  have w2 : IntKind.u32.wrap (rs1 : Int) = rs1 := by rw [u32w]; omega
  have w3 : IntKind.u32.wrap (rs2 : Int) = rs2 := by rw [u32w]; omega
  have m1 : IntKind.u32.wrap ((rd : Int) * 128) = ((rd * 128 : Nat) : Int) := by rw [u32w]; omega
  have m2 : IntKind.u32.wrap ((rs1 : Int) * 32768) = ((rs1 * 32768 : Nat) : Int) := by rw [u32w]; omega
  have m3 : IntKind.u32.wrap ((rs2 : Int) * 1048576) = ((rs2 * 1048576 : Nat) : Int) := by rw [u32w]; omega
  obtain ⟨a1, ha1⟩ : ∃ a, a = rd * 128 := ⟨_, rfl⟩
  obtain ⟨a2, ha2⟩ : ∃ a, a = rs1 * 32768 := ⟨_, rfl⟩
  obtain ⟨a3, ha3⟩ : ∃ a, a = rs2 * 1048576 := ⟨_, rfl⟩
  rw [← ha1] at m1
  rw [← ha2] at m2
  rw [← ha3] at m3
  have l1 : a1 < 4294967296 := by omega
  have l2 : a2 < 4294967296 := by omega
  have l3 : a3 < 4294967296 := by omega
  have e1 : bits .or .u32 (cw : Int) (a2 : Int) = ((cw ||| a2 : Nat) : Int) := or32 _ _ hc l2
  have hb1 := or_lt hc l2
  obtain ⟨d1, hd1⟩ : ∃ d, d = cw ||| a2 := ⟨_, rfl⟩
  rw [← hd1] at e1 hb1
  have e2 : bits .or .u32 (d1 : Int) (a3 : Int) = ((d1 ||| a3 : Nat) : Int) := or32 _ _ hb1 l3
  have hb2 := or_lt hb1 l3
  obtain ⟨d2, hd2⟩ : ∃ d, d = d1 ||| a3 := ⟨_, rfl⟩
  rw [← hd2] at e2 hb2
  obtain ⟨R, hR⟩ : ∃ R, R = setS d2 imm := ⟨_, rfl⟩
  have hres : setS (cw ||| rs1 * 32768 ||| rs2 * 1048576) imm = R := by rw [hR, hd2, hd1, ha2, ha3]
  rw [hres]
  have SI : Hid (∀ w, Calls Tryd.prog 22 #[.int .u32 (d2 : Int), .int .u32 (imm : Int)] w fun e w' => e = .returned (.int .u32 (R : Int)) ∧ w' = w) := Lib.hid (by rw [hR]; exact setS_any d2 imm)
  obtain ⟨q, hq⟩ : ∃ q, q = decide (sx 12 imm = imm) := ⟨_, rfl⟩
  have FI : Hid (∀ w, Calls Tryd.prog 35 #[.int .u32 (imm : Int), .int .i64 12] w fun e w' => e = .returned (.bool q) ∧ w' = w) := Lib.hid fun w => by rw [hq]; exact fits_any imm 12 hi (.inl rfl) w
  rw [← hq]
  have zp : ((rd : Int) == 0) = decide (rd = 0) := eqz rd
  obtain ⟨p, hp⟩ : ∃ p, p = decide (rd = 0) := ⟨_, rfl⟩
  rw [← hp] at zp ⊢
  clear hd2 hd1 hb2 hb1 ha1 ha2 ha3 hq hp hR hres
  clear h c0 hC rb rr hall hf hcw hc hop h1 h2 h3 hi l1 l2 l3
  go_enter Tryd.func12, Tryd.ntmps12
  go_wp2_with fail
  refine (HF.out _).mono ?_
  rintro e w' ⟨rfl, rfl⟩
  go_wp2_with fail
  rw [← hB, ← hV]
  clear hV hB
  refine HR.out.mono ?_
  rintro e w' ⟨rfl, rfl⟩
  rw [HALL.out]
  go_wp2_with fail
  refine wp_region_C (fun w => w.cell? ⟨B, 1, none⟩ = some (.int .i64 (rd : Int)) ∧ w.cell? ⟨B, 2, none⟩ = some (.int .i64 (rs1 : Int)) ∧ w.cell? ⟨B, 3, none⟩ = some (.int .i64 (rs2 : Int))) [(0, 0), (1, 1), (2, 0), (3, 0), (4, 0), (5, 1), (6, 0), (7, 0), (8, 0), (9, 1), (10, 0), (11, 0), (12, 0), (13, 0), (14, 0)] rfl (by kernel_rfl) ?hSA ?hTA
  case hSA => exact ⟨b1, b2, b3⟩
  refine wpT_pureD (v := ?_) (some 27) rfl rfl (by rfl) (fun w' => ?_) ?_
  rotate_left
  · (go_simp; try with_reducible rfl)
  try simp only [Act.put, List.setIfInBounds_toArray, List.set_cons_zero, List.set_cons_succ]
  refine wpT_readD (v := ?_) (some 28) rfl rfl (by rfl) (fun w' hw => ?_) ?_
  rotate_left
  · (obtain ⟨q0, q1, q2⟩ := hw; go_simp; try with_reducible rfl)
  try simp only [Act.put, List.setIfInBounds_toArray, List.set_cons_zero, List.set_cons_succ]
  refine wpT_pureD (v := ?_) (some 29) rfl rfl (by rfl) (fun w' => ?_) ?_
  rotate_left
  · (go_simp; try with_reducible rfl)
  try simp only [Act.put, List.setIfInBounds_toArray, List.set_cons_zero, List.set_cons_succ]
  refine wpT_pureD (v := ?_) (some 30) rfl rfl (by rfl) (fun w' => ?_) ?_
  rotate_left
  · (go_simp; try with_reducible rfl)
  try simp only [Act.put, List.setIfInBounds_toArray, List.set_cons_zero, List.set_cons_succ]
  refine wpT_pureD (v := ?_) (some 31) rfl rfl (by rfl) (fun w' => ?_) ?_
  rotate_left
  · (go_simp; try with_reducible rfl)
  try simp only [Act.put, List.setIfInBounds_toArray, List.set_cons_zero, List.set_cons_succ]
  refine wpT_readD (v := ?_) (some 32) rfl rfl (by rfl) (fun w' hw => ?_) ?_
  rotate_left
  · (obtain ⟨q0, q1, q2⟩ := hw; go_simp; try with_reducible rfl)
  try simp only [Act.put, List.setIfInBounds_toArray, List.set_cons_zero, List.set_cons_succ]
  refine wpT_pureD (v := ?_) (some 33) rfl rfl (by rfl) (fun w' => ?_) ?_
  rotate_left
  · (go_simp; try with_reducible rfl)
  try simp only [Act.put, List.setIfInBounds_toArray, List.set_cons_zero, List.set_cons_succ]
  refine wpT_pureD (v := ?_) (some 34) rfl rfl (by rfl) (fun w' => ?_) ?_
  rotate_left
  · (go_simp; try with_reducible rfl)
  try simp only [Act.put, List.setIfInBounds_toArray, List.set_cons_zero, List.set_cons_succ]
  refine wpT_pureD (v := ?_) (some 35) rfl rfl (by rfl) (fun w' => ?_) ?_
  rotate_left
  · (go_simp; try with_reducible rfl)
  try simp only [Act.put, List.setIfInBounds_toArray, List.set_cons_zero, List.set_cons_succ]
  refine wpT_readD (v := ?_) (some 36) rfl rfl (by rfl) (fun w' hw => ?_) ?_
  rotate_left
  · (obtain ⟨q0, q1, q2⟩ := hw; go_simp; try with_reducible rfl)
  try simp only [Act.put, List.setIfInBounds_toArray, List.set_cons_zero, List.set_cons_succ]
  refine wpT_pureD (v := ?_) (some 37) rfl rfl (by rfl) (fun w' => ?_) ?_
  rotate_left
  · (go_simp; try with_reducible rfl)
  try simp only [Act.put, List.setIfInBounds_toArray, List.set_cons_zero, List.set_cons_succ]
  refine wpT_pureD (v := ?_) (some 38) rfl rfl (by rfl) (fun w' => ?_) ?_
  rotate_left
  · (go_simp; try with_reducible rfl)
  try simp only [Act.put, List.setIfInBounds_toArray, List.set_cons_zero, List.set_cons_succ]
  refine wpT_pureD (v := ?_) (some 5) rfl rfl (by rfl) (fun w' => ?_) ?_
  rotate_left
  · (go_simp; try with_reducible rfl)
  try simp only [Act.put, List.setIfInBounds_toArray, List.set_cons_zero, List.set_cons_succ]
  refine wpT_pureD (v := ?_) (some 6) rfl rfl (by rfl) (fun w' => ?_) ?_
  rotate_left
  · (go_simp; try with_reducible rfl)
  try simp only [Act.put, List.setIfInBounds_toArray, List.set_cons_zero, List.set_cons_succ]
  refine wpT_pureD (v := ?_) (some 7) rfl rfl (by rfl) (fun w' => ?_) ?_
  rotate_left
  · (go_simp; try with_reducible rfl)
  try simp only [Act.put, List.setIfInBounds_toArray, List.set_cons_zero, List.set_cons_succ]
  refine wpT_end ?_
  go_wp2_with fail
  refine (HF.out _).mono ?_
  rintro e w'' ⟨rfl, rfl⟩
  cases q
  · go_wp2_with fail
    refine wp_region_C (fun w => w.cell? ⟨B, 4, none⟩ = some (.int .u32 (imm : Int)) ∧ w.cell? ⟨B, 1, none⟩ = some (.int .i64 (rd : Int))) [(0, 0), (1, 0), (2, 0), (3, 0), (4, 0), (5, 0), (6, 1), (7, 0), (8, 0), (9, 1), (10, 0), (11, 0), (12, 0), (13, 1), (14, 0), (15, 0), (16, 0), (17, 0)] rfl (by kernel_rfl) ?hSSf ?hTSf
    case hSSf => exact ⟨b4, b1⟩
    refine wpT_pureD (v := ?_) (some 131) rfl rfl (by rfl) (fun w' => ?_) ?_
    rotate_left
    · (go_simp; try with_reducible rfl)
    try simp only [Act.put, List.setIfInBounds_toArray, List.set_cons_zero, List.set_cons_succ]
    refine wpT_pureD (v := ?_) (some 132) rfl rfl (by rfl) (fun w' => ?_) ?_
    rotate_left
    · (go_simp; try with_reducible rfl)
    try simp only [Act.put, List.setIfInBounds_toArray, List.set_cons_zero, List.set_cons_succ]
    refine wpT_pureD (v := ?_) (some 133) rfl rfl (by rfl) (fun w' => ?_) ?_
    rotate_left
    · (go_simp; try with_reducible rfl)
    try simp only [Act.put, List.setIfInBounds_toArray, List.set_cons_zero, List.set_cons_succ]
    refine wpT_pureD (v := ?_) (some 134) rfl rfl (by rfl) (fun w' => ?_) ?_
    rotate_left
    · (go_simp; try with_reducible rfl)
    try simp only [Act.put, List.setIfInBounds_toArray, List.set_cons_zero, List.set_cons_succ]
    refine wpT_pureD (v := ?_) (some 135) rfl rfl (by rfl) (fun w' => ?_) ?_
    rotate_left
    · (go_simp; try with_reducible rfl)
    try simp only [Act.put, List.setIfInBounds_toArray, List.set_cons_zero, List.set_cons_succ]
    refine wpT_pureD (v := ?_) (some 136) rfl rfl (by rfl) (fun w' => ?_) ?_
    rotate_left
    · (go_simp; try with_reducible rfl)
    try simp only [Act.put, List.setIfInBounds_toArray, List.set_cons_zero, List.set_cons_succ]
    refine wpT_readD (v := ?_) (some 137) rfl rfl (by rfl) (fun w' hw => ?_) ?_
    rotate_left
    · (obtain ⟨q0, q1⟩ := hw; go_simp; try with_reducible rfl)
    try simp only [Act.put, List.setIfInBounds_toArray, List.set_cons_zero, List.set_cons_succ]
    refine wpT_call (d := some 138) (f := 22) (args := #[.int .u32 (d2 : Int), .int .u32 (imm : Int)]) (v := .int .u32 (R : Int)) rfl rfl (by rfl) (fun w' => by first | rfl | (go_simp; done) | (go_simp; rfl)) (fun w' => SI.out w') ?_
    try simp only [Act.put, List.setIfInBounds_toArray, List.set_cons_zero, List.set_cons_succ]
    try simp only [Act.put, List.setIfInBounds_toArray, List.set_cons_zero, List.set_cons_succ]
    refine wpT_pureD (v := ?_) (some 139) rfl rfl (by rfl) (fun w' => ?_) ?_
    rotate_left
    · (go_simp; try with_reducible rfl)
    try simp only [Act.put, List.setIfInBounds_toArray, List.set_cons_zero, List.set_cons_succ]
    refine wpT_readD (v := ?_) (some 140) rfl rfl (by rfl) (fun w' hw => ?_) ?_
    rotate_left
    · (obtain ⟨q0, q1⟩ := hw; go_simp; try with_reducible rfl)
    try simp only [Act.put, List.setIfInBounds_toArray, List.set_cons_zero, List.set_cons_succ]
    refine wpT_call (d := some 141) (f := 35) (args := #[.int .u32 (imm : Int), .int .i64 12]) (v := .bool false) rfl rfl (by rfl) (fun w' => by first | rfl | (go_simp; done) | (go_simp; rfl)) (fun w' => FI.out w') ?_
    try simp only [Act.put, List.setIfInBounds_toArray, List.set_cons_zero, List.set_cons_succ]
    try simp only [Act.put, List.setIfInBounds_toArray, List.set_cons_zero, List.set_cons_succ]
    refine wpT_pureD (v := ?_) (some 142) rfl rfl (by rfl) (fun w' => ?_) ?_
    rotate_left
    · (go_simp; try with_reducible rfl)
    try simp only [Act.put, List.setIfInBounds_toArray, List.set_cons_zero, List.set_cons_succ]
    refine wpT_skipD (some 143) rfl rfl (by rfl) ?_
    try simp only [Act.put, List.setIfInBounds_toArray, List.set_cons_zero, List.set_cons_succ]
    refine wpT_skipD (some 144) rfl rfl (by rfl) ?_
    try simp only [Act.put, List.setIfInBounds_toArray, List.set_cons_zero, List.set_cons_succ]
    refine wpT_skipD (some 145) rfl rfl (by rfl) ?_
    try simp only [Act.put, List.setIfInBounds_toArray, List.set_cons_zero, List.set_cons_succ]
    refine wpT_pureD (v := ?_) (some 146) rfl rfl (by rfl) (fun w' => ?_) ?_
    rotate_left
    · (go_simp; try with_reducible rfl)
    try simp only [Act.put, List.setIfInBounds_toArray, List.set_cons_zero, List.set_cons_succ]
    refine wpT_pureD (v := ?_) (some 2) rfl rfl (by rfl) (fun w' => ?_) ?_
    rotate_left
    · (go_simp; try with_reducible rfl)
    try simp only [Act.put, List.setIfInBounds_toArray, List.set_cons_zero, List.set_cons_succ]
    refine wpT_pureD (v := ?_) (some 3) rfl rfl (by rfl) (fun w' => ?_) ?_
    rotate_left
    · (go_simp; try with_reducible rfl)
    try simp only [Act.put, List.setIfInBounds_toArray, List.set_cons_zero, List.set_cons_succ]
    refine wpT_end ?_
    go_wp2
    go_ret2
    exact ⟨rfl, (HC.out.drew).drew⟩
  · go_wp2_with fail
    refine wp_region_C (fun w => w.cell? ⟨B, 4, none⟩ = some (.int .u32 (imm : Int)) ∧ w.cell? ⟨B, 1, none⟩ = some (.int .i64 (rd : Int))) [(0, 0), (1, 0), (2, 0), (3, 0), (4, 0), (5, 0), (6, 1), (7, 0), (8, 0), (9, 1), (10, 0), (11, 0), (12, 0), (13, 1), (14, 0), (15, 0), (16, 0), (17, 0)] rfl (by kernel_rfl) ?hSSt ?hTSt
    case hSSt => exact ⟨b4, b1⟩
    refine wpT_pureD (v := ?_) (some 131) rfl rfl (by rfl) (fun w' => ?_) ?_
    rotate_left
    · (go_simp; try with_reducible rfl)
    try simp only [Act.put, List.setIfInBounds_toArray, List.set_cons_zero, List.set_cons_succ]
    refine wpT_pureD (v := ?_) (some 132) rfl rfl (by rfl) (fun w' => ?_) ?_
    rotate_left
    · (go_simp; try with_reducible rfl)
    try simp only [Act.put, List.setIfInBounds_toArray, List.set_cons_zero, List.set_cons_succ]
    refine wpT_pureD (v := ?_) (some 133) rfl rfl (by rfl) (fun w' => ?_) ?_
    rotate_left
    · (go_simp; try with_reducible rfl)
    try simp only [Act.put, List.setIfInBounds_toArray, List.set_cons_zero, List.set_cons_succ]
    refine wpT_pureD (v := ?_) (some 134) rfl rfl (by rfl) (fun w' => ?_) ?_
    rotate_left
    · (go_simp; try with_reducible rfl)
    try simp only [Act.put, List.setIfInBounds_toArray, List.set_cons_zero, List.set_cons_succ]
    refine wpT_pureD (v := ?_) (some 135) rfl rfl (by rfl) (fun w' => ?_) ?_
    rotate_left
    · (go_simp; try with_reducible rfl)
    try simp only [Act.put, List.setIfInBounds_toArray, List.set_cons_zero, List.set_cons_succ]
    refine wpT_pureD (v := ?_) (some 136) rfl rfl (by rfl) (fun w' => ?_) ?_
    rotate_left
    · (go_simp; try with_reducible rfl)
    try simp only [Act.put, List.setIfInBounds_toArray, List.set_cons_zero, List.set_cons_succ]
    refine wpT_readD (v := ?_) (some 137) rfl rfl (by rfl) (fun w' hw => ?_) ?_
    rotate_left
    · (obtain ⟨q0, q1⟩ := hw; go_simp; try with_reducible rfl)
    try simp only [Act.put, List.setIfInBounds_toArray, List.set_cons_zero, List.set_cons_succ]
    refine wpT_call (d := some 138) (f := 22) (args := #[.int .u32 (d2 : Int), .int .u32 (imm : Int)]) (v := .int .u32 (R : Int)) rfl rfl (by rfl) (fun w' => by first | rfl | (go_simp; done) | (go_simp; rfl)) (fun w' => SI.out w') ?_
    try simp only [Act.put, List.setIfInBounds_toArray, List.set_cons_zero, List.set_cons_succ]
    try simp only [Act.put, List.setIfInBounds_toArray, List.set_cons_zero, List.set_cons_succ]
    refine wpT_pureD (v := ?_) (some 139) rfl rfl (by rfl) (fun w' => ?_) ?_
    rotate_left
    · (go_simp; try with_reducible rfl)
    try simp only [Act.put, List.setIfInBounds_toArray, List.set_cons_zero, List.set_cons_succ]
    refine wpT_readD (v := ?_) (some 140) rfl rfl (by rfl) (fun w' hw => ?_) ?_
    rotate_left
    · (obtain ⟨q0, q1⟩ := hw; go_simp; try with_reducible rfl)
    try simp only [Act.put, List.setIfInBounds_toArray, List.set_cons_zero, List.set_cons_succ]
    refine wpT_call (d := some 141) (f := 35) (args := #[.int .u32 (imm : Int), .int .i64 12]) (v := .bool true) rfl rfl (by rfl) (fun w' => by first | rfl | (go_simp; done) | (go_simp; rfl)) (fun w' => FI.out w') ?_
    try simp only [Act.put, List.setIfInBounds_toArray, List.set_cons_zero, List.set_cons_succ]
    try simp only [Act.put, List.setIfInBounds_toArray, List.set_cons_zero, List.set_cons_succ]
    refine wpT_pureD (v := ?_) (some 142) rfl rfl (by rfl) (fun w' => ?_) ?_
    rotate_left
    · (go_simp; try with_reducible rfl)
    try simp only [Act.put, List.setIfInBounds_toArray, List.set_cons_zero, List.set_cons_succ]
    refine wpT_pureD (v := ?_) (some 143) rfl rfl (by rfl) (fun w' => ?_) ?_
    rotate_left
    · (go_simp; try with_reducible rfl)
    try simp only [Act.put, List.setIfInBounds_toArray, List.set_cons_zero, List.set_cons_succ]
    refine wpT_readD (v := ?_) (some 144) rfl rfl (by rfl) (fun w' hw => ?_) ?_
    rotate_left
    · (obtain ⟨q0, q1⟩ := hw; go_simp; try with_reducible rfl)
    try simp only [Act.put, List.setIfInBounds_toArray, List.set_cons_zero, List.set_cons_succ]
    refine wpT_pureD (v := ?_) (some 145) rfl rfl (by rfl) (fun w' => ?_) ?_
    rotate_left
    · (go_simp; try with_reducible rfl)
    try simp only [Act.put, List.setIfInBounds_toArray, List.set_cons_zero, List.set_cons_succ]
    refine wpT_pureD (v := ?_) (some 146) rfl rfl (by rfl) (fun w' => ?_) ?_
    rotate_left
    · (go_simp; try with_reducible rfl)
    try simp only [Act.put, List.setIfInBounds_toArray, List.set_cons_zero, List.set_cons_succ]
    refine wpT_pureD (v := ?_) (some 2) rfl rfl (by rfl) (fun w' => ?_) ?_
    rotate_left
    · (go_simp; try with_reducible rfl)
    try simp only [Act.put, List.setIfInBounds_toArray, List.set_cons_zero, List.set_cons_succ]
    refine wpT_pureD (v := ?_) (some 3) rfl rfl (by rfl) (fun w' => ?_) ?_
    rotate_left
    · (go_simp; try with_reducible rfl)
    try simp only [Act.put, List.setIfInBounds_toArray, List.set_cons_zero, List.set_cons_succ]
    refine wpT_end ?_
    go_wp2
    go_ret2
    exact ⟨rfl, (HC.out.drew).drew⟩
set_option maxRecDepth 100000 in
set_option maxHeartbeats 1600000 in
theorem enc_R (op rd rs1 rs2 imm cw : Nat) (hf : formN (op : Int) = 5) (hcw : codesL[op]? = some cw) (hc : cw < 4294967296) (hop : op < 57) (h1 : rd < 32) (h2 : rs1 < 32) (h3 : rs2 < 32) (hi : imm < 4294967296) (W : World) (h : LaidOk W) :
    Calls Tryd.prog 12 #[.agg #[.int .i64 (op : Int), .int .i64 (rd : Int), .int .i64 (rs1 : Int), .int .i64 (rs2 : Int), .int .u32 (imm : Int)]] W fun e w' => e = .returned (.tuple #[.int .u32 ((cw ||| rd * 128 ||| rs1 * 32768 ||| rs2 * 1048576 : Nat) : Int), .bool (decide (imm = 0))]) ∧ Chg [] W w' := by
  have c0 := h op cw hcw
  obtain ⟨B, hB⟩ : ∃ B, B = W.heap.size := ⟨_, rfl⟩
  obtain ⟨V, hV⟩ : ∃ V, V = (W.alloc (.cells #[.int .i64 (op : Int), .int .i64 (rd : Int), .int .i64 (rs1 : Int), .int .i64 (rs2 : Int), .int .u32 (imm : Int)] 26)).alloc (.cells #[.int .i64 (rd : Int), .int .i64 (rs1 : Int), .int .i64 (rs2 : Int)] 3) := ⟨_, rfl⟩
  have hC : Chg [] W V := by rw [hV]; exact ((Chg.refl _ _).alloc _).alloc _
  have rb : V.row? B = some #[.int .i64 (op : Int), .int .i64 (rd : Int), .int .i64 (rs1 : Int), .int .i64 (rs2 : Int), .int .u32 (imm : Int)] := by
    rw [hV, row_alloc_past _ _ _ (by simp; omega)]; exact row_alloc_at _ _ _ _ hB
  have rr : V.row? (B + 1) = some #[.int .i64 (rd : Int), .int .i64 (rs1 : Int), .int .i64 (rs2 : Int)] := by
    rw [hV]; exact row_alloc_at _ _ _ _ (by simp; omega)
  have c : V.cell? ⟨0, op, none⟩ = some (.int .u32 (cw : Int)) := by
    rw [World.cell?_of_block (w := W) (hC.block 0 (World.block_lt_of_cell? W _ c0) (by simp))]; exact c0
  have HR := Lib.hid (reg_any (w := V) (B := B + 1) (n := 3) (c := 3) [(rd : Int), (rs1 : Int), (rs2 : Int)] rfl (by omega) (fun j u hu => by
    rw [row_cell rr]; revert hu; match j with | 0 => intro hu; cases hu; rfl | 1 => intro hu; cases hu; rfl | 2 => intro hu; cases hu; rfl | _ + 3 => intro hu; cases hu))
  have HF : Hid (∀ w, Calls Tryd.prog 15 #[.int .i64 (op : Int)] w fun e w' => e = .returned (.int .i64 5) ∧ w' = w) := Lib.hid fun w => by rw [← hf]; exact form_any op w
  have b0 : V.cell? ⟨B, 0, none⟩ = some (.int .i64 (op : Int)) := by rw [row_cell rb]; rfl
  have b1 : V.cell? ⟨B, 1, none⟩ = some (.int .i64 (rd : Int)) := by rw [row_cell rb]; rfl
  have b2 : V.cell? ⟨B, 2, none⟩ = some (.int .i64 (rs1 : Int)) := by rw [row_cell rb]; rfl
  have b3 : V.cell? ⟨B, 3, none⟩ = some (.int .i64 (rs2 : Int)) := by rw [row_cell rb]; rfl
  have b4 : V.cell? ⟨B, 4, none⟩ = some (.int .u32 (imm : Int)) := by rw [row_cell rb]; rfl
  have HC := Lib.hid hC
  have hall : ([(rd : Int), (rs1 : Int), (rs2 : Int)] : List Int).all regB = true := by simp [regB]; omega
  have HALL := Lib.hid hall
  have hopI : (op : Int) < 57 := by omega
  have w1 : IntKind.u32.wrap (rd : Int) = rd := by rw [u32w]; omega
  have w2 : IntKind.u32.wrap (rs1 : Int) = rs1 := by rw [u32w]; omega
  have w3 : IntKind.u32.wrap (rs2 : Int) = rs2 := by rw [u32w]; omega
  have m1 : IntKind.u32.wrap ((rd : Int) * 128) = ((rd * 128 : Nat) : Int) := by rw [u32w]; omega
  have m2 : IntKind.u32.wrap ((rs1 : Int) * 32768) = ((rs1 * 32768 : Nat) : Int) := by rw [u32w]; omega
  have m3 : IntKind.u32.wrap ((rs2 : Int) * 1048576) = ((rs2 * 1048576 : Nat) : Int) := by rw [u32w]; omega
  obtain ⟨a1, ha1⟩ : ∃ a, a = rd * 128 := ⟨_, rfl⟩
  obtain ⟨a2, ha2⟩ : ∃ a, a = rs1 * 32768 := ⟨_, rfl⟩
  obtain ⟨a3, ha3⟩ : ∃ a, a = rs2 * 1048576 := ⟨_, rfl⟩
  rw [← ha1] at m1
  rw [← ha2] at m2
  rw [← ha3] at m3
  have l1 : a1 < 4294967296 := by omega
  have l2 : a2 < 4294967296 := by omega
  have l3 : a3 < 4294967296 := by omega
  have e1 : bits .or .u32 (cw : Int) (a1 : Int) = ((cw ||| a1 : Nat) : Int) := or32 _ _ hc l1
  have hb1 := or_lt hc l1
  obtain ⟨d1, hd1⟩ : ∃ d, d = cw ||| a1 := ⟨_, rfl⟩
  rw [← hd1] at e1 hb1
  have e2 : bits .or .u32 (d1 : Int) (a2 : Int) = ((d1 ||| a2 : Nat) : Int) := or32 _ _ hb1 l2
  have hb2 := or_lt hb1 l2
  obtain ⟨d2, hd2⟩ : ∃ d, d = d1 ||| a2 := ⟨_, rfl⟩
  rw [← hd2] at e2 hb2
  have e3 : bits .or .u32 (d2 : Int) (a3 : Int) = ((d2 ||| a3 : Nat) : Int) := or32 _ _ hb2 l3
  have hb3 := or_lt hb2 l3
  obtain ⟨d3, hd3⟩ : ∃ d, d = d2 ||| a3 := ⟨_, rfl⟩
  rw [← hd3] at e3 hb3
  have hres : cw ||| rd * 128 ||| rs1 * 32768 ||| rs2 * 1048576 = d3 := by rw [hd3, hd2, hd1, ha1, ha2, ha3]
  rw [hres]
  have zp : ((imm : Int) == 0) = decide (imm = 0) := eqz imm
  obtain ⟨p, hp⟩ : ∃ p, p = decide (imm = 0) := ⟨_, rfl⟩
  rw [← hp] at zp ⊢
  clear hd3 hd2 hd1 hb3 hb2 hb1 ha1 ha2 ha3 hp hres
  clear h c0 hC rb rr hall hf hcw hc hop h1 h2 h3 hi l1 l2 l3
  go_enter Tryd.func12, Tryd.ntmps12
  go_wp2_with fail
  refine (HF.out _).mono ?_
  rintro e w' ⟨rfl, rfl⟩
  go_wp2_with fail
  rw [← hB, ← hV]
  clear hV hB
  refine HR.out.mono ?_
  rintro e w' ⟨rfl, rfl⟩
  rw [HALL.out]
  go_wp2_with fail
  refine wp_region_C (fun w => w.cell? ⟨B, 1, none⟩ = some (.int .i64 (rd : Int)) ∧ w.cell? ⟨B, 2, none⟩ = some (.int .i64 (rs1 : Int)) ∧ w.cell? ⟨B, 3, none⟩ = some (.int .i64 (rs2 : Int))) [(0, 0), (1, 1), (2, 0), (3, 0), (4, 0), (5, 1), (6, 0), (7, 0), (8, 0), (9, 1), (10, 0), (11, 0), (12, 0), (13, 0), (14, 0)] rfl (by kernel_rfl) ?hSA ?hTA
  case hSA => exact ⟨b1, b2, b3⟩
  refine wpT_pureD (v := ?_) (some 27) rfl rfl (by rfl) (fun w' => ?_) ?_
  rotate_left
  · (go_simp; try with_reducible rfl)
  try simp only [Act.put, List.setIfInBounds_toArray, List.set_cons_zero, List.set_cons_succ]
  refine wpT_readD (v := ?_) (some 28) rfl rfl (by rfl) (fun w' hw => ?_) ?_
  rotate_left
  · (obtain ⟨q0, q1, q2⟩ := hw; go_simp; try with_reducible rfl)
  try simp only [Act.put, List.setIfInBounds_toArray, List.set_cons_zero, List.set_cons_succ]
  refine wpT_pureD (v := ?_) (some 29) rfl rfl (by rfl) (fun w' => ?_) ?_
  rotate_left
  · (go_simp; try with_reducible rfl)
  try simp only [Act.put, List.setIfInBounds_toArray, List.set_cons_zero, List.set_cons_succ]
  refine wpT_pureD (v := ?_) (some 30) rfl rfl (by rfl) (fun w' => ?_) ?_
  rotate_left
  · (go_simp; try with_reducible rfl)
  try simp only [Act.put, List.setIfInBounds_toArray, List.set_cons_zero, List.set_cons_succ]
  refine wpT_pureD (v := ?_) (some 31) rfl rfl (by rfl) (fun w' => ?_) ?_
  rotate_left
  · (go_simp; try with_reducible rfl)
  try simp only [Act.put, List.setIfInBounds_toArray, List.set_cons_zero, List.set_cons_succ]
  refine wpT_readD (v := ?_) (some 32) rfl rfl (by rfl) (fun w' hw => ?_) ?_
  rotate_left
  · (obtain ⟨q0, q1, q2⟩ := hw; go_simp; try with_reducible rfl)
  try simp only [Act.put, List.setIfInBounds_toArray, List.set_cons_zero, List.set_cons_succ]
  refine wpT_pureD (v := ?_) (some 33) rfl rfl (by rfl) (fun w' => ?_) ?_
  rotate_left
  · (go_simp; try with_reducible rfl)
  try simp only [Act.put, List.setIfInBounds_toArray, List.set_cons_zero, List.set_cons_succ]
  refine wpT_pureD (v := ?_) (some 34) rfl rfl (by rfl) (fun w' => ?_) ?_
  rotate_left
  · (go_simp; try with_reducible rfl)
  try simp only [Act.put, List.setIfInBounds_toArray, List.set_cons_zero, List.set_cons_succ]
  refine wpT_pureD (v := ?_) (some 35) rfl rfl (by rfl) (fun w' => ?_) ?_
  rotate_left
  · (go_simp; try with_reducible rfl)
  try simp only [Act.put, List.setIfInBounds_toArray, List.set_cons_zero, List.set_cons_succ]
  refine wpT_readD (v := ?_) (some 36) rfl rfl (by rfl) (fun w' hw => ?_) ?_
  rotate_left
  · (obtain ⟨q0, q1, q2⟩ := hw; go_simp; try with_reducible rfl)
  try simp only [Act.put, List.setIfInBounds_toArray, List.set_cons_zero, List.set_cons_succ]
  refine wpT_pureD (v := ?_) (some 37) rfl rfl (by rfl) (fun w' => ?_) ?_
  rotate_left
  · (go_simp; try with_reducible rfl)
  try simp only [Act.put, List.setIfInBounds_toArray, List.set_cons_zero, List.set_cons_succ]
  refine wpT_pureD (v := ?_) (some 38) rfl rfl (by rfl) (fun w' => ?_) ?_
  rotate_left
  · (go_simp; try with_reducible rfl)
  try simp only [Act.put, List.setIfInBounds_toArray, List.set_cons_zero, List.set_cons_succ]
  refine wpT_pureD (v := ?_) (some 5) rfl rfl (by rfl) (fun w' => ?_) ?_
  rotate_left
  · (go_simp; try with_reducible rfl)
  try simp only [Act.put, List.setIfInBounds_toArray, List.set_cons_zero, List.set_cons_succ]
  refine wpT_pureD (v := ?_) (some 6) rfl rfl (by rfl) (fun w' => ?_) ?_
  rotate_left
  · (go_simp; try with_reducible rfl)
  try simp only [Act.put, List.setIfInBounds_toArray, List.set_cons_zero, List.set_cons_succ]
  refine wpT_pureD (v := ?_) (some 7) rfl rfl (by rfl) (fun w' => ?_) ?_
  rotate_left
  · (go_simp; try with_reducible rfl)
  try simp only [Act.put, List.setIfInBounds_toArray, List.set_cons_zero, List.set_cons_succ]
  refine wpT_end ?_
  go_wp2_with fail
  refine (HF.out _).mono ?_
  rintro e w'' ⟨rfl, rfl⟩
  go_wp2_with fail
  refine wp_region_C (fun w => w.cell? ⟨B, 4, none⟩ = some (.int .u32 (imm : Int))) [(0, 0), (1, 0), (2, 0), (3, 0), (4, 0), (5, 0), (6, 0), (7, 0), (8, 1), (9, 0), (10, 0), (11, 0)] rfl (by kernel_rfl) ?hSR ?hTR
  case hSR => exact b4
  refine wpT_pureD (v := ?_) (some 149) rfl rfl (by rfl) (fun w' => ?_) ?_
  rotate_left
  · (go_simp; try with_reducible rfl)
  try simp only [Act.put, List.setIfInBounds_toArray, List.set_cons_zero, List.set_cons_succ]
  refine wpT_pureD (v := ?_) (some 150) rfl rfl (by rfl) (fun w' => ?_) ?_
  rotate_left
  · (go_simp; try with_reducible rfl)
  try simp only [Act.put, List.setIfInBounds_toArray, List.set_cons_zero, List.set_cons_succ]
  refine wpT_pureD (v := ?_) (some 151) rfl rfl (by rfl) (fun w' => ?_) ?_
  rotate_left
  · (go_simp; try with_reducible rfl)
  try simp only [Act.put, List.setIfInBounds_toArray, List.set_cons_zero, List.set_cons_succ]
  refine wpT_pureD (v := ?_) (some 152) rfl rfl (by rfl) (fun w' => ?_) ?_
  rotate_left
  · (go_simp; try with_reducible rfl)
  try simp only [Act.put, List.setIfInBounds_toArray, List.set_cons_zero, List.set_cons_succ]
  refine wpT_pureD (v := ?_) (some 153) rfl rfl (by rfl) (fun w' => ?_) ?_
  rotate_left
  · (go_simp; try with_reducible rfl)
  try simp only [Act.put, List.setIfInBounds_toArray, List.set_cons_zero, List.set_cons_succ]
  refine wpT_pureD (v := ?_) (some 154) rfl rfl (by rfl) (fun w' => ?_) ?_
  rotate_left
  · (go_simp; try with_reducible rfl)
  try simp only [Act.put, List.setIfInBounds_toArray, List.set_cons_zero, List.set_cons_succ]
  refine wpT_pureD (v := ?_) (some 155) rfl rfl (by rfl) (fun w' => ?_) ?_
  rotate_left
  · (go_simp; try with_reducible rfl)
  try simp only [Act.put, List.setIfInBounds_toArray, List.set_cons_zero, List.set_cons_succ]
  refine wpT_pureD (v := ?_) (some 156) rfl rfl (by rfl) (fun w' => ?_) ?_
  rotate_left
  · (go_simp; try with_reducible rfl)
  try simp only [Act.put, List.setIfInBounds_toArray, List.set_cons_zero, List.set_cons_succ]
  refine wpT_readD (v := ?_) (some 157) rfl rfl (by rfl) (fun w' hw => ?_) ?_
  rotate_left
  · (obtain q0 := hw; go_simp; try with_reducible rfl)
  try simp only [Act.put, List.setIfInBounds_toArray, List.set_cons_zero, List.set_cons_succ]
  refine wpT_pureD (v := ?_) (some 158) rfl rfl (by rfl) (fun w' => ?_) ?_
  rotate_left
  · (go_simp; try with_reducible rfl)
  try simp only [Act.put, List.setIfInBounds_toArray, List.set_cons_zero, List.set_cons_succ]
  refine wpT_pureD (v := ?_) (some 2) rfl rfl (by rfl) (fun w' => ?_) ?_
  rotate_left
  · (go_simp; try with_reducible rfl)
  try simp only [Act.put, List.setIfInBounds_toArray, List.set_cons_zero, List.set_cons_succ]
  refine wpT_pureD (v := ?_) (some 3) rfl rfl (by rfl) (fun w' => ?_) ?_
  rotate_left
  · (go_simp; try with_reducible rfl)
  try simp only [Act.put, List.setIfInBounds_toArray, List.set_cons_zero, List.set_cons_succ]
  refine wpT_end ?_
  go_wp2
  go_ret2
  exact ⟨rfl, (HC.out.drew).drew⟩
set_option maxRecDepth 100000 in
set_option maxHeartbeats 1600000 in
theorem enc_T (op rd rs1 rs2 imm cw : Nat) (hf : formN (op : Int) = 6) (hcw : codesL[op]? = some cw) (hc : cw < 4294967296) (hop : op < 57) (h1 : rd < 32) (h2 : rs1 < 32) (h3 : rs2 < 32) (hi : imm < 4294967296) (W : World) (h : LaidOk W) :
    Calls Tryd.prog 12 #[.agg #[.int .i64 (op : Int), .int .i64 (rd : Int), .int .i64 (rs1 : Int), .int .i64 (rs2 : Int), .int .u32 (imm : Int)]] W fun e w' => e = .returned (.tuple #[.int .u32 ((cw ||| rd * 128 ||| rs1 * 32768 ||| (imm * 1048576 % 4294967296) : Nat) : Int), .bool (decide (imm < 32) && decide (rs2 = 0))]) ∧ Chg [] W w' := by
  have c0 := h op cw hcw
  obtain ⟨B, hB⟩ : ∃ B, B = W.heap.size := ⟨_, rfl⟩
  obtain ⟨V, hV⟩ : ∃ V, V = (W.alloc (.cells #[.int .i64 (op : Int), .int .i64 (rd : Int), .int .i64 (rs1 : Int), .int .i64 (rs2 : Int), .int .u32 (imm : Int)] 26)).alloc (.cells #[.int .i64 (rd : Int), .int .i64 (rs1 : Int), .int .i64 (rs2 : Int)] 3) := ⟨_, rfl⟩
  have hC : Chg [] W V := by rw [hV]; exact ((Chg.refl _ _).alloc _).alloc _
  have rb : V.row? B = some #[.int .i64 (op : Int), .int .i64 (rd : Int), .int .i64 (rs1 : Int), .int .i64 (rs2 : Int), .int .u32 (imm : Int)] := by
    rw [hV, row_alloc_past _ _ _ (by simp; omega)]; exact row_alloc_at _ _ _ _ hB
  have rr : V.row? (B + 1) = some #[.int .i64 (rd : Int), .int .i64 (rs1 : Int), .int .i64 (rs2 : Int)] := by
    rw [hV]; exact row_alloc_at _ _ _ _ (by simp; omega)
  have c : V.cell? ⟨0, op, none⟩ = some (.int .u32 (cw : Int)) := by
    rw [World.cell?_of_block (w := W) (hC.block 0 (World.block_lt_of_cell? W _ c0) (by simp))]; exact c0
  have HR := Lib.hid (reg_any (w := V) (B := B + 1) (n := 3) (c := 3) [(rd : Int), (rs1 : Int), (rs2 : Int)] rfl (by omega) (fun j u hu => by
    rw [row_cell rr]; revert hu; match j with | 0 => intro hu; cases hu; rfl | 1 => intro hu; cases hu; rfl | 2 => intro hu; cases hu; rfl | _ + 3 => intro hu; cases hu))
  have HF : Hid (∀ w, Calls Tryd.prog 15 #[.int .i64 (op : Int)] w fun e w' => e = .returned (.int .i64 6) ∧ w' = w) := Lib.hid fun w => by rw [← hf]; exact form_any op w
  have b0 : V.cell? ⟨B, 0, none⟩ = some (.int .i64 (op : Int)) := by rw [row_cell rb]; rfl
  have b1 : V.cell? ⟨B, 1, none⟩ = some (.int .i64 (rd : Int)) := by rw [row_cell rb]; rfl
  have b2 : V.cell? ⟨B, 2, none⟩ = some (.int .i64 (rs1 : Int)) := by rw [row_cell rb]; rfl
  have b3 : V.cell? ⟨B, 3, none⟩ = some (.int .i64 (rs2 : Int)) := by rw [row_cell rb]; rfl
  have b4 : V.cell? ⟨B, 4, none⟩ = some (.int .u32 (imm : Int)) := by rw [row_cell rb]; rfl
  have HC := Lib.hid hC
  have hall : ([(rd : Int), (rs1 : Int), (rs2 : Int)] : List Int).all regB = true := by simp [regB]; omega
  have HALL := Lib.hid hall
  have hopI : (op : Int) < 57 := by omega
  have w1 : IntKind.u32.wrap (rd : Int) = rd := by rw [u32w]; omega
  have w2 : IntKind.u32.wrap (rs1 : Int) = rs1 := by rw [u32w]; omega
  have w3 : IntKind.u32.wrap (rs2 : Int) = rs2 := by rw [u32w]; omega
  have m1 : IntKind.u32.wrap ((rd : Int) * 128) = ((rd * 128 : Nat) : Int) := by rw [u32w]; omega
  have m2 : IntKind.u32.wrap ((rs1 : Int) * 32768) = ((rs1 * 32768 : Nat) : Int) := by rw [u32w]; omega
  have m3 : IntKind.u32.wrap ((rs2 : Int) * 1048576) = ((rs2 * 1048576 : Nat) : Int) := by rw [u32w]; omega
  obtain ⟨a1, ha1⟩ : ∃ a, a = rd * 128 := ⟨_, rfl⟩
  obtain ⟨a2, ha2⟩ : ∃ a, a = rs1 * 32768 := ⟨_, rfl⟩
  obtain ⟨a3, ha3⟩ : ∃ a, a = rs2 * 1048576 := ⟨_, rfl⟩
  rw [← ha1] at m1
  rw [← ha2] at m2
  rw [← ha3] at m3
  have l1 : a1 < 4294967296 := by omega
  have l2 : a2 < 4294967296 := by omega
  have l3 : a3 < 4294967296 := by omega
  have mi : IntKind.u32.wrap ((imm : Int) * 1048576) = ((imm * 1048576 % 4294967296 : Nat) : Int) := by rw [u32w]; omega
  obtain ⟨ai, hai⟩ : ∃ a, a = imm * 1048576 % 4294967296 := ⟨_, rfl⟩
  rw [← hai] at mi
  have li : ai < 4294967296 := by omega
  have e1 : bits .or .u32 (cw : Int) (a1 : Int) = ((cw ||| a1 : Nat) : Int) := or32 _ _ hc l1
  have hb1 := or_lt hc l1
  obtain ⟨d1, hd1⟩ : ∃ d, d = cw ||| a1 := ⟨_, rfl⟩
  rw [← hd1] at e1 hb1
  have e2 : bits .or .u32 (d1 : Int) (a2 : Int) = ((d1 ||| a2 : Nat) : Int) := or32 _ _ hb1 l2
  have hb2 := or_lt hb1 l2
  obtain ⟨d2, hd2⟩ : ∃ d, d = d1 ||| a2 := ⟨_, rfl⟩
  rw [← hd2] at e2 hb2
  have e3 : bits .or .u32 (d2 : Int) (ai : Int) = ((d2 ||| ai : Nat) : Int) := or32 _ _ hb2 li
  have hb3 := or_lt hb2 li
  obtain ⟨d3, hd3⟩ : ∃ d, d = d2 ||| ai := ⟨_, rfl⟩
  rw [← hd3] at e3 hb3
  have hres : cw ||| rd * 128 ||| rs1 * 32768 ||| imm * 1048576 % 4294967296 = d3 := by rw [hd3, hd2, hd1, ha1, ha2, hai]
  rw [hres]
  have zq : decide ((imm : Int) < 32) = decide (imm < 32) := by rw [Bool.eq_iff_iff]; simp; omega
  obtain ⟨q, hq⟩ : ∃ p, p = decide (imm < 32) := ⟨_, rfl⟩
  rw [← hq] at zq ⊢
  have zp : ((rs2 : Int) == 0) = decide (rs2 = 0) := eqz rs2
  obtain ⟨p, hp⟩ : ∃ p, p = decide (rs2 = 0) := ⟨_, rfl⟩
  rw [← hp] at zp ⊢
  clear hd3 hd2 hd1 hb3 hb2 hb1 ha1 ha2 ha3 hq hp hres hai li
  clear h c0 hC rb rr hall hf hcw hc hop h1 h2 h3 hi l1 l2 l3
  go_enter Tryd.func12, Tryd.ntmps12
  go_wp2_with fail
  refine (HF.out _).mono ?_
  rintro e w' ⟨rfl, rfl⟩
  go_wp2_with fail
  rw [← hB, ← hV]
  clear hV hB
  refine HR.out.mono ?_
  rintro e w' ⟨rfl, rfl⟩
  rw [HALL.out]
  go_wp2_with fail
  refine wp_region_C (fun w => w.cell? ⟨B, 1, none⟩ = some (.int .i64 (rd : Int)) ∧ w.cell? ⟨B, 2, none⟩ = some (.int .i64 (rs1 : Int)) ∧ w.cell? ⟨B, 3, none⟩ = some (.int .i64 (rs2 : Int))) [(0, 0), (1, 1), (2, 0), (3, 0), (4, 0), (5, 1), (6, 0), (7, 0), (8, 0), (9, 1), (10, 0), (11, 0), (12, 0), (13, 0), (14, 0)] rfl (by kernel_rfl) ?hSA ?hTA
  case hSA => exact ⟨b1, b2, b3⟩
  refine wpT_pureD (v := ?_) (some 27) rfl rfl (by rfl) (fun w' => ?_) ?_
  rotate_left
  · (go_simp; try with_reducible rfl)
  try simp only [Act.put, List.setIfInBounds_toArray, List.set_cons_zero, List.set_cons_succ]
  refine wpT_readD (v := ?_) (some 28) rfl rfl (by rfl) (fun w' hw => ?_) ?_
  rotate_left
  · (obtain ⟨q0, q1, q2⟩ := hw; go_simp; try with_reducible rfl)
  try simp only [Act.put, List.setIfInBounds_toArray, List.set_cons_zero, List.set_cons_succ]
  refine wpT_pureD (v := ?_) (some 29) rfl rfl (by rfl) (fun w' => ?_) ?_
  rotate_left
  · (go_simp; try with_reducible rfl)
  try simp only [Act.put, List.setIfInBounds_toArray, List.set_cons_zero, List.set_cons_succ]
  refine wpT_pureD (v := ?_) (some 30) rfl rfl (by rfl) (fun w' => ?_) ?_
  rotate_left
  · (go_simp; try with_reducible rfl)
  try simp only [Act.put, List.setIfInBounds_toArray, List.set_cons_zero, List.set_cons_succ]
  refine wpT_pureD (v := ?_) (some 31) rfl rfl (by rfl) (fun w' => ?_) ?_
  rotate_left
  · (go_simp; try with_reducible rfl)
  try simp only [Act.put, List.setIfInBounds_toArray, List.set_cons_zero, List.set_cons_succ]
  refine wpT_readD (v := ?_) (some 32) rfl rfl (by rfl) (fun w' hw => ?_) ?_
  rotate_left
  · (obtain ⟨q0, q1, q2⟩ := hw; go_simp; try with_reducible rfl)
  try simp only [Act.put, List.setIfInBounds_toArray, List.set_cons_zero, List.set_cons_succ]
  refine wpT_pureD (v := ?_) (some 33) rfl rfl (by rfl) (fun w' => ?_) ?_
  rotate_left
  · (go_simp; try with_reducible rfl)
  try simp only [Act.put, List.setIfInBounds_toArray, List.set_cons_zero, List.set_cons_succ]
  refine wpT_pureD (v := ?_) (some 34) rfl rfl (by rfl) (fun w' => ?_) ?_
  rotate_left
  · (go_simp; try with_reducible rfl)
  try simp only [Act.put, List.setIfInBounds_toArray, List.set_cons_zero, List.set_cons_succ]
  refine wpT_pureD (v := ?_) (some 35) rfl rfl (by rfl) (fun w' => ?_) ?_
  rotate_left
  · (go_simp; try with_reducible rfl)
  try simp only [Act.put, List.setIfInBounds_toArray, List.set_cons_zero, List.set_cons_succ]
  refine wpT_readD (v := ?_) (some 36) rfl rfl (by rfl) (fun w' hw => ?_) ?_
  rotate_left
  · (obtain ⟨q0, q1, q2⟩ := hw; go_simp; try with_reducible rfl)
  try simp only [Act.put, List.setIfInBounds_toArray, List.set_cons_zero, List.set_cons_succ]
  refine wpT_pureD (v := ?_) (some 37) rfl rfl (by rfl) (fun w' => ?_) ?_
  rotate_left
  · (go_simp; try with_reducible rfl)
  try simp only [Act.put, List.setIfInBounds_toArray, List.set_cons_zero, List.set_cons_succ]
  refine wpT_pureD (v := ?_) (some 38) rfl rfl (by rfl) (fun w' => ?_) ?_
  rotate_left
  · (go_simp; try with_reducible rfl)
  try simp only [Act.put, List.setIfInBounds_toArray, List.set_cons_zero, List.set_cons_succ]
  refine wpT_pureD (v := ?_) (some 5) rfl rfl (by rfl) (fun w' => ?_) ?_
  rotate_left
  · (go_simp; try with_reducible rfl)
  try simp only [Act.put, List.setIfInBounds_toArray, List.set_cons_zero, List.set_cons_succ]
  refine wpT_pureD (v := ?_) (some 6) rfl rfl (by rfl) (fun w' => ?_) ?_
  rotate_left
  · (go_simp; try with_reducible rfl)
  try simp only [Act.put, List.setIfInBounds_toArray, List.set_cons_zero, List.set_cons_succ]
  refine wpT_pureD (v := ?_) (some 7) rfl rfl (by rfl) (fun w' => ?_) ?_
  rotate_left
  · (go_simp; try with_reducible rfl)
  try simp only [Act.put, List.setIfInBounds_toArray, List.set_cons_zero, List.set_cons_succ]
  refine wpT_end ?_
  go_wp2_with fail
  refine (HF.out _).mono ?_
  rintro e w'' ⟨rfl, rfl⟩
  cases q
  · go_wp2_with fail
    refine wp_region_C (fun w => w.cell? ⟨B, 4, none⟩ = some (.int .u32 (imm : Int)) ∧ w.cell? ⟨B, 3, none⟩ = some (.int .i64 (rs2 : Int))) [(0, 0), (1, 0), (2, 0), (3, 0), (4, 0), (5, 0), (6, 1), (7, 0), (8, 0), (9, 0), (10, 1), (11, 0), (12, 0), (13, 0), (14, 1), (15, 0), (16, 0), (17, 0), (18, 0)] rfl (by kernel_rfl) ?hSTf ?hTTf
    case hSTf => exact ⟨b4, b3⟩
    refine wpT_pureD (v := ?_) (some 161) rfl rfl (by rfl) (fun w' => ?_) ?_
    rotate_left
    · (go_simp; try with_reducible rfl)
    try simp only [Act.put, List.setIfInBounds_toArray, List.set_cons_zero, List.set_cons_succ]
    refine wpT_pureD (v := ?_) (some 162) rfl rfl (by rfl) (fun w' => ?_) ?_
    rotate_left
    · (go_simp; try with_reducible rfl)
    try simp only [Act.put, List.setIfInBounds_toArray, List.set_cons_zero, List.set_cons_succ]
    refine wpT_pureD (v := ?_) (some 163) rfl rfl (by rfl) (fun w' => ?_) ?_
    rotate_left
    · (go_simp; try with_reducible rfl)
    try simp only [Act.put, List.setIfInBounds_toArray, List.set_cons_zero, List.set_cons_succ]
    refine wpT_pureD (v := ?_) (some 164) rfl rfl (by rfl) (fun w' => ?_) ?_
    rotate_left
    · (go_simp; try with_reducible rfl)
    try simp only [Act.put, List.setIfInBounds_toArray, List.set_cons_zero, List.set_cons_succ]
    refine wpT_pureD (v := ?_) (some 165) rfl rfl (by rfl) (fun w' => ?_) ?_
    rotate_left
    · (go_simp; try with_reducible rfl)
    try simp only [Act.put, List.setIfInBounds_toArray, List.set_cons_zero, List.set_cons_succ]
    refine wpT_pureD (v := ?_) (some 166) rfl rfl (by rfl) (fun w' => ?_) ?_
    rotate_left
    · (go_simp; try with_reducible rfl)
    try simp only [Act.put, List.setIfInBounds_toArray, List.set_cons_zero, List.set_cons_succ]
    refine wpT_readD (v := ?_) (some 167) rfl rfl (by rfl) (fun w' hw => ?_) ?_
    rotate_left
    · (obtain ⟨q0, q1⟩ := hw; go_simp; try with_reducible rfl)
    try simp only [Act.put, List.setIfInBounds_toArray, List.set_cons_zero, List.set_cons_succ]
    refine wpT_pureD (v := ?_) (some 168) rfl rfl (by rfl) (fun w' => ?_) ?_
    rotate_left
    · (go_simp; try with_reducible rfl)
    try simp only [Act.put, List.setIfInBounds_toArray, List.set_cons_zero, List.set_cons_succ]
    refine wpT_pureD (v := ?_) (some 169) rfl rfl (by rfl) (fun w' => ?_) ?_
    rotate_left
    · (go_simp; try with_reducible rfl)
    try simp only [Act.put, List.setIfInBounds_toArray, List.set_cons_zero, List.set_cons_succ]
    refine wpT_pureD (v := ?_) (some 170) rfl rfl (by rfl) (fun w' => ?_) ?_
    rotate_left
    · (go_simp; try with_reducible rfl)
    try simp only [Act.put, List.setIfInBounds_toArray, List.set_cons_zero, List.set_cons_succ]
    refine wpT_readD (v := ?_) (some 171) rfl rfl (by rfl) (fun w' hw => ?_) ?_
    rotate_left
    · (obtain ⟨q0, q1⟩ := hw; go_simp; try with_reducible rfl)
    try simp only [Act.put, List.setIfInBounds_toArray, List.set_cons_zero, List.set_cons_succ]
    refine wpT_pureD (v := ?_) (some 172) rfl rfl (by rfl) (fun w' => ?_) ?_
    rotate_left
    · (go_simp; try with_reducible rfl)
    try simp only [Act.put, List.setIfInBounds_toArray, List.set_cons_zero, List.set_cons_succ]
    refine wpT_pureD (v := ?_) (some 173) rfl rfl (by rfl) (fun w' => ?_) ?_
    rotate_left
    · (go_simp; try with_reducible rfl)
    try simp only [Act.put, List.setIfInBounds_toArray, List.set_cons_zero, List.set_cons_succ]
    refine wpT_skipD (some 174) rfl rfl (by rfl) ?_
    try simp only [Act.put, List.setIfInBounds_toArray, List.set_cons_zero, List.set_cons_succ]
    refine wpT_skipD (some 175) rfl rfl (by rfl) ?_
    try simp only [Act.put, List.setIfInBounds_toArray, List.set_cons_zero, List.set_cons_succ]
    refine wpT_skipD (some 176) rfl rfl (by rfl) ?_
    try simp only [Act.put, List.setIfInBounds_toArray, List.set_cons_zero, List.set_cons_succ]
    refine wpT_pureD (v := ?_) (some 177) rfl rfl (by rfl) (fun w' => ?_) ?_
    rotate_left
    · (go_simp; try with_reducible rfl)
    try simp only [Act.put, List.setIfInBounds_toArray, List.set_cons_zero, List.set_cons_succ]
    refine wpT_pureD (v := ?_) (some 2) rfl rfl (by rfl) (fun w' => ?_) ?_
    rotate_left
    · (go_simp; try with_reducible rfl)
    try simp only [Act.put, List.setIfInBounds_toArray, List.set_cons_zero, List.set_cons_succ]
    refine wpT_pureD (v := ?_) (some 3) rfl rfl (by rfl) (fun w' => ?_) ?_
    rotate_left
    · (go_simp; try with_reducible rfl)
    try simp only [Act.put, List.setIfInBounds_toArray, List.set_cons_zero, List.set_cons_succ]
    refine wpT_end ?_
    go_wp2
    go_ret2
    exact ⟨rfl, (HC.out.drew).drew⟩
  · go_wp2_with fail
    refine wp_region_C (fun w => w.cell? ⟨B, 4, none⟩ = some (.int .u32 (imm : Int)) ∧ w.cell? ⟨B, 3, none⟩ = some (.int .i64 (rs2 : Int))) [(0, 0), (1, 0), (2, 0), (3, 0), (4, 0), (5, 0), (6, 1), (7, 0), (8, 0), (9, 0), (10, 1), (11, 0), (12, 0), (13, 0), (14, 1), (15, 0), (16, 0), (17, 0), (18, 0)] rfl (by kernel_rfl) ?hSTt ?hTTt
    case hSTt => exact ⟨b4, b3⟩
    refine wpT_pureD (v := ?_) (some 161) rfl rfl (by rfl) (fun w' => ?_) ?_
    rotate_left
    · (go_simp; try with_reducible rfl)
    try simp only [Act.put, List.setIfInBounds_toArray, List.set_cons_zero, List.set_cons_succ]
    refine wpT_pureD (v := ?_) (some 162) rfl rfl (by rfl) (fun w' => ?_) ?_
    rotate_left
    · (go_simp; try with_reducible rfl)
    try simp only [Act.put, List.setIfInBounds_toArray, List.set_cons_zero, List.set_cons_succ]
    refine wpT_pureD (v := ?_) (some 163) rfl rfl (by rfl) (fun w' => ?_) ?_
    rotate_left
    · (go_simp; try with_reducible rfl)
    try simp only [Act.put, List.setIfInBounds_toArray, List.set_cons_zero, List.set_cons_succ]
    refine wpT_pureD (v := ?_) (some 164) rfl rfl (by rfl) (fun w' => ?_) ?_
    rotate_left
    · (go_simp; try with_reducible rfl)
    try simp only [Act.put, List.setIfInBounds_toArray, List.set_cons_zero, List.set_cons_succ]
    refine wpT_pureD (v := ?_) (some 165) rfl rfl (by rfl) (fun w' => ?_) ?_
    rotate_left
    · (go_simp; try with_reducible rfl)
    try simp only [Act.put, List.setIfInBounds_toArray, List.set_cons_zero, List.set_cons_succ]
    refine wpT_pureD (v := ?_) (some 166) rfl rfl (by rfl) (fun w' => ?_) ?_
    rotate_left
    · (go_simp; try with_reducible rfl)
    try simp only [Act.put, List.setIfInBounds_toArray, List.set_cons_zero, List.set_cons_succ]
    refine wpT_readD (v := ?_) (some 167) rfl rfl (by rfl) (fun w' hw => ?_) ?_
    rotate_left
    · (obtain ⟨q0, q1⟩ := hw; go_simp; try with_reducible rfl)
    try simp only [Act.put, List.setIfInBounds_toArray, List.set_cons_zero, List.set_cons_succ]
    refine wpT_pureD (v := ?_) (some 168) rfl rfl (by rfl) (fun w' => ?_) ?_
    rotate_left
    · (go_simp; try with_reducible rfl)
    try simp only [Act.put, List.setIfInBounds_toArray, List.set_cons_zero, List.set_cons_succ]
    refine wpT_pureD (v := ?_) (some 169) rfl rfl (by rfl) (fun w' => ?_) ?_
    rotate_left
    · (go_simp; try with_reducible rfl)
    try simp only [Act.put, List.setIfInBounds_toArray, List.set_cons_zero, List.set_cons_succ]
    refine wpT_pureD (v := ?_) (some 170) rfl rfl (by rfl) (fun w' => ?_) ?_
    rotate_left
    · (go_simp; try with_reducible rfl)
    try simp only [Act.put, List.setIfInBounds_toArray, List.set_cons_zero, List.set_cons_succ]
    refine wpT_readD (v := ?_) (some 171) rfl rfl (by rfl) (fun w' hw => ?_) ?_
    rotate_left
    · (obtain ⟨q0, q1⟩ := hw; go_simp; try with_reducible rfl)
    try simp only [Act.put, List.setIfInBounds_toArray, List.set_cons_zero, List.set_cons_succ]
    refine wpT_pureD (v := ?_) (some 172) rfl rfl (by rfl) (fun w' => ?_) ?_
    rotate_left
    · (go_simp; try with_reducible rfl)
    try simp only [Act.put, List.setIfInBounds_toArray, List.set_cons_zero, List.set_cons_succ]
    refine wpT_pureD (v := ?_) (some 173) rfl rfl (by rfl) (fun w' => ?_) ?_
    rotate_left
    · (go_simp; try with_reducible rfl)
    try simp only [Act.put, List.setIfInBounds_toArray, List.set_cons_zero, List.set_cons_succ]
    refine wpT_pureD (v := ?_) (some 174) rfl rfl (by rfl) (fun w' => ?_) ?_
    rotate_left
    · (go_simp; try with_reducible rfl)
    try simp only [Act.put, List.setIfInBounds_toArray, List.set_cons_zero, List.set_cons_succ]
    refine wpT_readD (v := ?_) (some 175) rfl rfl (by rfl) (fun w' hw => ?_) ?_
    rotate_left
    · (obtain ⟨q0, q1⟩ := hw; go_simp; try with_reducible rfl)
    try simp only [Act.put, List.setIfInBounds_toArray, List.set_cons_zero, List.set_cons_succ]
    refine wpT_pureD (v := ?_) (some 176) rfl rfl (by rfl) (fun w' => ?_) ?_
    rotate_left
    · (go_simp; try with_reducible rfl)
    try simp only [Act.put, List.setIfInBounds_toArray, List.set_cons_zero, List.set_cons_succ]
    refine wpT_pureD (v := ?_) (some 177) rfl rfl (by rfl) (fun w' => ?_) ?_
    rotate_left
    · (go_simp; try with_reducible rfl)
    try simp only [Act.put, List.setIfInBounds_toArray, List.set_cons_zero, List.set_cons_succ]
    refine wpT_pureD (v := ?_) (some 2) rfl rfl (by rfl) (fun w' => ?_) ?_
    rotate_left
    · (go_simp; try with_reducible rfl)
    try simp only [Act.put, List.setIfInBounds_toArray, List.set_cons_zero, List.set_cons_succ]
    refine wpT_pureD (v := ?_) (some 3) rfl rfl (by rfl) (fun w' => ?_) ?_
    rotate_left
    · (go_simp; try with_reducible rfl)
    try simp only [Act.put, List.setIfInBounds_toArray, List.set_cons_zero, List.set_cons_succ]
    refine wpT_end ?_
    go_wp2
    go_ret2
    exact ⟨rfl, (HC.out.drew).drew⟩
set_option maxRecDepth 100000 in
set_option maxHeartbeats 1600000 in
theorem enc_C (op rd rs1 rs2 imm cw : Nat) (hf : formN (op : Int) = 8) (hcw : codesL[op]? = some cw) (hc : cw < 4294967296) (hop : op < 57) (h1 : rd < 32) (h2 : rs1 < 32) (h3 : rs2 < 32) (hi : imm < 4294967296) (W : World) (h : LaidOk W) :
    Calls Tryd.prog 12 #[.agg #[.int .i64 (op : Int), .int .i64 (rd : Int), .int .i64 (rs1 : Int), .int .i64 (rs2 : Int), .int .u32 (imm : Int)]] W fun e w' => e = .returned (.tuple #[.int .u32 ((cw ||| rd * 128 ||| rs1 * 32768 ||| (imm * 1048576 % 4294967296) : Nat) : Int), .bool (decide (imm < 4096) && decide (rs2 = 0))]) ∧ Chg [] W w' := by
  have c0 := h op cw hcw
  obtain ⟨B, hB⟩ : ∃ B, B = W.heap.size := ⟨_, rfl⟩
  obtain ⟨V, hV⟩ : ∃ V, V = (W.alloc (.cells #[.int .i64 (op : Int), .int .i64 (rd : Int), .int .i64 (rs1 : Int), .int .i64 (rs2 : Int), .int .u32 (imm : Int)] 26)).alloc (.cells #[.int .i64 (rd : Int), .int .i64 (rs1 : Int), .int .i64 (rs2 : Int)] 3) := ⟨_, rfl⟩
  have hC : Chg [] W V := by rw [hV]; exact ((Chg.refl _ _).alloc _).alloc _
  have rb : V.row? B = some #[.int .i64 (op : Int), .int .i64 (rd : Int), .int .i64 (rs1 : Int), .int .i64 (rs2 : Int), .int .u32 (imm : Int)] := by
    rw [hV, row_alloc_past _ _ _ (by simp; omega)]; exact row_alloc_at _ _ _ _ hB
  have rr : V.row? (B + 1) = some #[.int .i64 (rd : Int), .int .i64 (rs1 : Int), .int .i64 (rs2 : Int)] := by
    rw [hV]; exact row_alloc_at _ _ _ _ (by simp; omega)
  have c : V.cell? ⟨0, op, none⟩ = some (.int .u32 (cw : Int)) := by
    rw [World.cell?_of_block (w := W) (hC.block 0 (World.block_lt_of_cell? W _ c0) (by simp))]; exact c0
  have HR := Lib.hid (reg_any (w := V) (B := B + 1) (n := 3) (c := 3) [(rd : Int), (rs1 : Int), (rs2 : Int)] rfl (by omega) (fun j u hu => by
    rw [row_cell rr]; revert hu; match j with | 0 => intro hu; cases hu; rfl | 1 => intro hu; cases hu; rfl | 2 => intro hu; cases hu; rfl | _ + 3 => intro hu; cases hu))
  have HF : Hid (∀ w, Calls Tryd.prog 15 #[.int .i64 (op : Int)] w fun e w' => e = .returned (.int .i64 8) ∧ w' = w) := Lib.hid fun w => by rw [← hf]; exact form_any op w
  have b0 : V.cell? ⟨B, 0, none⟩ = some (.int .i64 (op : Int)) := by rw [row_cell rb]; rfl
  have b1 : V.cell? ⟨B, 1, none⟩ = some (.int .i64 (rd : Int)) := by rw [row_cell rb]; rfl
  have b2 : V.cell? ⟨B, 2, none⟩ = some (.int .i64 (rs1 : Int)) := by rw [row_cell rb]; rfl
  have b3 : V.cell? ⟨B, 3, none⟩ = some (.int .i64 (rs2 : Int)) := by rw [row_cell rb]; rfl
  have b4 : V.cell? ⟨B, 4, none⟩ = some (.int .u32 (imm : Int)) := by rw [row_cell rb]; rfl
  have HC := Lib.hid hC
  have hall : ([(rd : Int), (rs1 : Int), (rs2 : Int)] : List Int).all regB = true := by simp [regB]; omega
  have HALL := Lib.hid hall
  have hopI : (op : Int) < 57 := by omega
  have w1 : IntKind.u32.wrap (rd : Int) = rd := by rw [u32w]; omega
  have w2 : IntKind.u32.wrap (rs1 : Int) = rs1 := by rw [u32w]; omega
  have w3 : IntKind.u32.wrap (rs2 : Int) = rs2 := by rw [u32w]; omega
  have m1 : IntKind.u32.wrap ((rd : Int) * 128) = ((rd * 128 : Nat) : Int) := by rw [u32w]; omega
  have m2 : IntKind.u32.wrap ((rs1 : Int) * 32768) = ((rs1 * 32768 : Nat) : Int) := by rw [u32w]; omega
  have m3 : IntKind.u32.wrap ((rs2 : Int) * 1048576) = ((rs2 * 1048576 : Nat) : Int) := by rw [u32w]; omega
  obtain ⟨a1, ha1⟩ : ∃ a, a = rd * 128 := ⟨_, rfl⟩
  obtain ⟨a2, ha2⟩ : ∃ a, a = rs1 * 32768 := ⟨_, rfl⟩
  obtain ⟨a3, ha3⟩ : ∃ a, a = rs2 * 1048576 := ⟨_, rfl⟩
  rw [← ha1] at m1
  rw [← ha2] at m2
  rw [← ha3] at m3
  have l1 : a1 < 4294967296 := by omega
  have l2 : a2 < 4294967296 := by omega
  have l3 : a3 < 4294967296 := by omega
  have mi : IntKind.u32.wrap ((imm : Int) * 1048576) = ((imm * 1048576 % 4294967296 : Nat) : Int) := by rw [u32w]; omega
  obtain ⟨ai, hai⟩ : ∃ a, a = imm * 1048576 % 4294967296 := ⟨_, rfl⟩
  rw [← hai] at mi
  have li : ai < 4294967296 := by omega
  have e1 : bits .or .u32 (cw : Int) (a1 : Int) = ((cw ||| a1 : Nat) : Int) := or32 _ _ hc l1
  have hb1 := or_lt hc l1
  obtain ⟨d1, hd1⟩ : ∃ d, d = cw ||| a1 := ⟨_, rfl⟩
  rw [← hd1] at e1 hb1
  have e2 : bits .or .u32 (d1 : Int) (a2 : Int) = ((d1 ||| a2 : Nat) : Int) := or32 _ _ hb1 l2
  have hb2 := or_lt hb1 l2
  obtain ⟨d2, hd2⟩ : ∃ d, d = d1 ||| a2 := ⟨_, rfl⟩
  rw [← hd2] at e2 hb2
  have e3 : bits .or .u32 (d2 : Int) (ai : Int) = ((d2 ||| ai : Nat) : Int) := or32 _ _ hb2 li
  have hb3 := or_lt hb2 li
  obtain ⟨d3, hd3⟩ : ∃ d, d = d2 ||| ai := ⟨_, rfl⟩
  rw [← hd3] at e3 hb3
  have hres : cw ||| rd * 128 ||| rs1 * 32768 ||| imm * 1048576 % 4294967296 = d3 := by rw [hd3, hd2, hd1, ha1, ha2, hai]
  rw [hres]
  have zq : decide ((imm : Int) < 4096) = decide (imm < 4096) := by rw [Bool.eq_iff_iff]; simp; omega
  obtain ⟨q, hq⟩ : ∃ p, p = decide (imm < 4096) := ⟨_, rfl⟩
  rw [← hq] at zq ⊢
  have zp : ((rs2 : Int) == 0) = decide (rs2 = 0) := eqz rs2
  obtain ⟨p, hp⟩ : ∃ p, p = decide (rs2 = 0) := ⟨_, rfl⟩
  rw [← hp] at zp ⊢
  clear hd3 hd2 hd1 hb3 hb2 hb1 ha1 ha2 ha3 hq hp hres hai li
  clear h c0 hC rb rr hall hf hcw hc hop h1 h2 h3 hi l1 l2 l3
  go_enter Tryd.func12, Tryd.ntmps12
  go_wp2_with fail
  refine (HF.out _).mono ?_
  rintro e w' ⟨rfl, rfl⟩
  go_wp2_with fail
  rw [← hB, ← hV]
  clear hV hB
  refine HR.out.mono ?_
  rintro e w' ⟨rfl, rfl⟩
  rw [HALL.out]
  go_wp2_with fail
  refine wp_region_C (fun w => w.cell? ⟨B, 1, none⟩ = some (.int .i64 (rd : Int)) ∧ w.cell? ⟨B, 2, none⟩ = some (.int .i64 (rs1 : Int)) ∧ w.cell? ⟨B, 3, none⟩ = some (.int .i64 (rs2 : Int))) [(0, 0), (1, 1), (2, 0), (3, 0), (4, 0), (5, 1), (6, 0), (7, 0), (8, 0), (9, 1), (10, 0), (11, 0), (12, 0), (13, 0), (14, 0)] rfl (by kernel_rfl) ?hSA ?hTA
  case hSA => exact ⟨b1, b2, b3⟩
  refine wpT_pureD (v := ?_) (some 27) rfl rfl (by rfl) (fun w' => ?_) ?_
  rotate_left
  · (go_simp; try with_reducible rfl)
  try simp only [Act.put, List.setIfInBounds_toArray, List.set_cons_zero, List.set_cons_succ]
  refine wpT_readD (v := ?_) (some 28) rfl rfl (by rfl) (fun w' hw => ?_) ?_
  rotate_left
  · (obtain ⟨q0, q1, q2⟩ := hw; go_simp; try with_reducible rfl)
  try simp only [Act.put, List.setIfInBounds_toArray, List.set_cons_zero, List.set_cons_succ]
  refine wpT_pureD (v := ?_) (some 29) rfl rfl (by rfl) (fun w' => ?_) ?_
  rotate_left
  · (go_simp; try with_reducible rfl)
  try simp only [Act.put, List.setIfInBounds_toArray, List.set_cons_zero, List.set_cons_succ]
  refine wpT_pureD (v := ?_) (some 30) rfl rfl (by rfl) (fun w' => ?_) ?_
  rotate_left
  · (go_simp; try with_reducible rfl)
  try simp only [Act.put, List.setIfInBounds_toArray, List.set_cons_zero, List.set_cons_succ]
  refine wpT_pureD (v := ?_) (some 31) rfl rfl (by rfl) (fun w' => ?_) ?_
  rotate_left
  · (go_simp; try with_reducible rfl)
  try simp only [Act.put, List.setIfInBounds_toArray, List.set_cons_zero, List.set_cons_succ]
  refine wpT_readD (v := ?_) (some 32) rfl rfl (by rfl) (fun w' hw => ?_) ?_
  rotate_left
  · (obtain ⟨q0, q1, q2⟩ := hw; go_simp; try with_reducible rfl)
  try simp only [Act.put, List.setIfInBounds_toArray, List.set_cons_zero, List.set_cons_succ]
  refine wpT_pureD (v := ?_) (some 33) rfl rfl (by rfl) (fun w' => ?_) ?_
  rotate_left
  · (go_simp; try with_reducible rfl)
  try simp only [Act.put, List.setIfInBounds_toArray, List.set_cons_zero, List.set_cons_succ]
  refine wpT_pureD (v := ?_) (some 34) rfl rfl (by rfl) (fun w' => ?_) ?_
  rotate_left
  · (go_simp; try with_reducible rfl)
  try simp only [Act.put, List.setIfInBounds_toArray, List.set_cons_zero, List.set_cons_succ]
  refine wpT_pureD (v := ?_) (some 35) rfl rfl (by rfl) (fun w' => ?_) ?_
  rotate_left
  · (go_simp; try with_reducible rfl)
  try simp only [Act.put, List.setIfInBounds_toArray, List.set_cons_zero, List.set_cons_succ]
  refine wpT_readD (v := ?_) (some 36) rfl rfl (by rfl) (fun w' hw => ?_) ?_
  rotate_left
  · (obtain ⟨q0, q1, q2⟩ := hw; go_simp; try with_reducible rfl)
  try simp only [Act.put, List.setIfInBounds_toArray, List.set_cons_zero, List.set_cons_succ]
  refine wpT_pureD (v := ?_) (some 37) rfl rfl (by rfl) (fun w' => ?_) ?_
  rotate_left
  · (go_simp; try with_reducible rfl)
  try simp only [Act.put, List.setIfInBounds_toArray, List.set_cons_zero, List.set_cons_succ]
  refine wpT_pureD (v := ?_) (some 38) rfl rfl (by rfl) (fun w' => ?_) ?_
  rotate_left
  · (go_simp; try with_reducible rfl)
  try simp only [Act.put, List.setIfInBounds_toArray, List.set_cons_zero, List.set_cons_succ]
  refine wpT_pureD (v := ?_) (some 5) rfl rfl (by rfl) (fun w' => ?_) ?_
  rotate_left
  · (go_simp; try with_reducible rfl)
  try simp only [Act.put, List.setIfInBounds_toArray, List.set_cons_zero, List.set_cons_succ]
  refine wpT_pureD (v := ?_) (some 6) rfl rfl (by rfl) (fun w' => ?_) ?_
  rotate_left
  · (go_simp; try with_reducible rfl)
  try simp only [Act.put, List.setIfInBounds_toArray, List.set_cons_zero, List.set_cons_succ]
  refine wpT_pureD (v := ?_) (some 7) rfl rfl (by rfl) (fun w' => ?_) ?_
  rotate_left
  · (go_simp; try with_reducible rfl)
  try simp only [Act.put, List.setIfInBounds_toArray, List.set_cons_zero, List.set_cons_succ]
  refine wpT_end ?_
  go_wp2_with fail
  refine (HF.out _).mono ?_
  rintro e w'' ⟨rfl, rfl⟩
  cases q
  · go_wp2_with fail
    refine wp_region_C (fun w => w.cell? ⟨B, 4, none⟩ = some (.int .u32 (imm : Int)) ∧ w.cell? ⟨B, 3, none⟩ = some (.int .i64 (rs2 : Int))) [(0, 0), (1, 0), (2, 0), (3, 0), (4, 0), (5, 0), (6, 1), (7, 0), (8, 0), (9, 0), (10, 1), (11, 0), (12, 0), (13, 0), (14, 1), (15, 0), (16, 0), (17, 0), (18, 0)] rfl (by kernel_rfl) ?hSCf ?hTCf
    case hSCf => exact ⟨b4, b3⟩
    refine wpT_pureD (v := ?_) (some 181) rfl rfl (by rfl) (fun w' => ?_) ?_
    rotate_left
    · (go_simp; try with_reducible rfl)
    try simp only [Act.put, List.setIfInBounds_toArray, List.set_cons_zero, List.set_cons_succ]
    refine wpT_pureD (v := ?_) (some 182) rfl rfl (by rfl) (fun w' => ?_) ?_
    rotate_left
    · (go_simp; try with_reducible rfl)
    try simp only [Act.put, List.setIfInBounds_toArray, List.set_cons_zero, List.set_cons_succ]
    refine wpT_pureD (v := ?_) (some 183) rfl rfl (by rfl) (fun w' => ?_) ?_
    rotate_left
    · (go_simp; try with_reducible rfl)
    try simp only [Act.put, List.setIfInBounds_toArray, List.set_cons_zero, List.set_cons_succ]
    refine wpT_pureD (v := ?_) (some 184) rfl rfl (by rfl) (fun w' => ?_) ?_
    rotate_left
    · (go_simp; try with_reducible rfl)
    try simp only [Act.put, List.setIfInBounds_toArray, List.set_cons_zero, List.set_cons_succ]
    refine wpT_pureD (v := ?_) (some 185) rfl rfl (by rfl) (fun w' => ?_) ?_
    rotate_left
    · (go_simp; try with_reducible rfl)
    try simp only [Act.put, List.setIfInBounds_toArray, List.set_cons_zero, List.set_cons_succ]
    refine wpT_pureD (v := ?_) (some 186) rfl rfl (by rfl) (fun w' => ?_) ?_
    rotate_left
    · (go_simp; try with_reducible rfl)
    try simp only [Act.put, List.setIfInBounds_toArray, List.set_cons_zero, List.set_cons_succ]
    refine wpT_readD (v := ?_) (some 187) rfl rfl (by rfl) (fun w' hw => ?_) ?_
    rotate_left
    · (obtain ⟨q0, q1⟩ := hw; go_simp; try with_reducible rfl)
    try simp only [Act.put, List.setIfInBounds_toArray, List.set_cons_zero, List.set_cons_succ]
    refine wpT_pureD (v := ?_) (some 188) rfl rfl (by rfl) (fun w' => ?_) ?_
    rotate_left
    · (go_simp; try with_reducible rfl)
    try simp only [Act.put, List.setIfInBounds_toArray, List.set_cons_zero, List.set_cons_succ]
    refine wpT_pureD (v := ?_) (some 189) rfl rfl (by rfl) (fun w' => ?_) ?_
    rotate_left
    · (go_simp; try with_reducible rfl)
    try simp only [Act.put, List.setIfInBounds_toArray, List.set_cons_zero, List.set_cons_succ]
    refine wpT_pureD (v := ?_) (some 190) rfl rfl (by rfl) (fun w' => ?_) ?_
    rotate_left
    · (go_simp; try with_reducible rfl)
    try simp only [Act.put, List.setIfInBounds_toArray, List.set_cons_zero, List.set_cons_succ]
    refine wpT_readD (v := ?_) (some 191) rfl rfl (by rfl) (fun w' hw => ?_) ?_
    rotate_left
    · (obtain ⟨q0, q1⟩ := hw; go_simp; try with_reducible rfl)
    try simp only [Act.put, List.setIfInBounds_toArray, List.set_cons_zero, List.set_cons_succ]
    refine wpT_pureD (v := ?_) (some 192) rfl rfl (by rfl) (fun w' => ?_) ?_
    rotate_left
    · (go_simp; try with_reducible rfl)
    try simp only [Act.put, List.setIfInBounds_toArray, List.set_cons_zero, List.set_cons_succ]
    refine wpT_pureD (v := ?_) (some 193) rfl rfl (by rfl) (fun w' => ?_) ?_
    rotate_left
    · (go_simp; try with_reducible rfl)
    try simp only [Act.put, List.setIfInBounds_toArray, List.set_cons_zero, List.set_cons_succ]
    refine wpT_skipD (some 194) rfl rfl (by rfl) ?_
    try simp only [Act.put, List.setIfInBounds_toArray, List.set_cons_zero, List.set_cons_succ]
    refine wpT_skipD (some 195) rfl rfl (by rfl) ?_
    try simp only [Act.put, List.setIfInBounds_toArray, List.set_cons_zero, List.set_cons_succ]
    refine wpT_skipD (some 196) rfl rfl (by rfl) ?_
    try simp only [Act.put, List.setIfInBounds_toArray, List.set_cons_zero, List.set_cons_succ]
    refine wpT_pureD (v := ?_) (some 197) rfl rfl (by rfl) (fun w' => ?_) ?_
    rotate_left
    · (go_simp; try with_reducible rfl)
    try simp only [Act.put, List.setIfInBounds_toArray, List.set_cons_zero, List.set_cons_succ]
    refine wpT_pureD (v := ?_) (some 2) rfl rfl (by rfl) (fun w' => ?_) ?_
    rotate_left
    · (go_simp; try with_reducible rfl)
    try simp only [Act.put, List.setIfInBounds_toArray, List.set_cons_zero, List.set_cons_succ]
    refine wpT_pureD (v := ?_) (some 3) rfl rfl (by rfl) (fun w' => ?_) ?_
    rotate_left
    · (go_simp; try with_reducible rfl)
    try simp only [Act.put, List.setIfInBounds_toArray, List.set_cons_zero, List.set_cons_succ]
    refine wpT_end ?_
    go_wp2
    go_ret2
    exact ⟨rfl, (HC.out.drew).drew⟩
  · go_wp2_with fail
    refine wp_region_C (fun w => w.cell? ⟨B, 4, none⟩ = some (.int .u32 (imm : Int)) ∧ w.cell? ⟨B, 3, none⟩ = some (.int .i64 (rs2 : Int))) [(0, 0), (1, 0), (2, 0), (3, 0), (4, 0), (5, 0), (6, 1), (7, 0), (8, 0), (9, 0), (10, 1), (11, 0), (12, 0), (13, 0), (14, 1), (15, 0), (16, 0), (17, 0), (18, 0)] rfl (by kernel_rfl) ?hSCt ?hTCt
    case hSCt => exact ⟨b4, b3⟩
    refine wpT_pureD (v := ?_) (some 181) rfl rfl (by rfl) (fun w' => ?_) ?_
    rotate_left
    · (go_simp; try with_reducible rfl)
    try simp only [Act.put, List.setIfInBounds_toArray, List.set_cons_zero, List.set_cons_succ]
    refine wpT_pureD (v := ?_) (some 182) rfl rfl (by rfl) (fun w' => ?_) ?_
    rotate_left
    · (go_simp; try with_reducible rfl)
    try simp only [Act.put, List.setIfInBounds_toArray, List.set_cons_zero, List.set_cons_succ]
    refine wpT_pureD (v := ?_) (some 183) rfl rfl (by rfl) (fun w' => ?_) ?_
    rotate_left
    · (go_simp; try with_reducible rfl)
    try simp only [Act.put, List.setIfInBounds_toArray, List.set_cons_zero, List.set_cons_succ]
    refine wpT_pureD (v := ?_) (some 184) rfl rfl (by rfl) (fun w' => ?_) ?_
    rotate_left
    · (go_simp; try with_reducible rfl)
    try simp only [Act.put, List.setIfInBounds_toArray, List.set_cons_zero, List.set_cons_succ]
    refine wpT_pureD (v := ?_) (some 185) rfl rfl (by rfl) (fun w' => ?_) ?_
    rotate_left
    · (go_simp; try with_reducible rfl)
    try simp only [Act.put, List.setIfInBounds_toArray, List.set_cons_zero, List.set_cons_succ]
    refine wpT_pureD (v := ?_) (some 186) rfl rfl (by rfl) (fun w' => ?_) ?_
    rotate_left
    · (go_simp; try with_reducible rfl)
    try simp only [Act.put, List.setIfInBounds_toArray, List.set_cons_zero, List.set_cons_succ]
    refine wpT_readD (v := ?_) (some 187) rfl rfl (by rfl) (fun w' hw => ?_) ?_
    rotate_left
    · (obtain ⟨q0, q1⟩ := hw; go_simp; try with_reducible rfl)
    try simp only [Act.put, List.setIfInBounds_toArray, List.set_cons_zero, List.set_cons_succ]
    refine wpT_pureD (v := ?_) (some 188) rfl rfl (by rfl) (fun w' => ?_) ?_
    rotate_left
    · (go_simp; try with_reducible rfl)
    try simp only [Act.put, List.setIfInBounds_toArray, List.set_cons_zero, List.set_cons_succ]
    refine wpT_pureD (v := ?_) (some 189) rfl rfl (by rfl) (fun w' => ?_) ?_
    rotate_left
    · (go_simp; try with_reducible rfl)
    try simp only [Act.put, List.setIfInBounds_toArray, List.set_cons_zero, List.set_cons_succ]
    refine wpT_pureD (v := ?_) (some 190) rfl rfl (by rfl) (fun w' => ?_) ?_
    rotate_left
    · (go_simp; try with_reducible rfl)
    try simp only [Act.put, List.setIfInBounds_toArray, List.set_cons_zero, List.set_cons_succ]
    refine wpT_readD (v := ?_) (some 191) rfl rfl (by rfl) (fun w' hw => ?_) ?_
    rotate_left
    · (obtain ⟨q0, q1⟩ := hw; go_simp; try with_reducible rfl)
    try simp only [Act.put, List.setIfInBounds_toArray, List.set_cons_zero, List.set_cons_succ]
    refine wpT_pureD (v := ?_) (some 192) rfl rfl (by rfl) (fun w' => ?_) ?_
    rotate_left
    · (go_simp; try with_reducible rfl)
    try simp only [Act.put, List.setIfInBounds_toArray, List.set_cons_zero, List.set_cons_succ]
    refine wpT_pureD (v := ?_) (some 193) rfl rfl (by rfl) (fun w' => ?_) ?_
    rotate_left
    · (go_simp; try with_reducible rfl)
    try simp only [Act.put, List.setIfInBounds_toArray, List.set_cons_zero, List.set_cons_succ]
    refine wpT_pureD (v := ?_) (some 194) rfl rfl (by rfl) (fun w' => ?_) ?_
    rotate_left
    · (go_simp; try with_reducible rfl)
    try simp only [Act.put, List.setIfInBounds_toArray, List.set_cons_zero, List.set_cons_succ]
    refine wpT_readD (v := ?_) (some 195) rfl rfl (by rfl) (fun w' hw => ?_) ?_
    rotate_left
    · (obtain ⟨q0, q1⟩ := hw; go_simp; try with_reducible rfl)
    try simp only [Act.put, List.setIfInBounds_toArray, List.set_cons_zero, List.set_cons_succ]
    refine wpT_pureD (v := ?_) (some 196) rfl rfl (by rfl) (fun w' => ?_) ?_
    rotate_left
    · (go_simp; try with_reducible rfl)
    try simp only [Act.put, List.setIfInBounds_toArray, List.set_cons_zero, List.set_cons_succ]
    refine wpT_pureD (v := ?_) (some 197) rfl rfl (by rfl) (fun w' => ?_) ?_
    rotate_left
    · (go_simp; try with_reducible rfl)
    try simp only [Act.put, List.setIfInBounds_toArray, List.set_cons_zero, List.set_cons_succ]
    refine wpT_pureD (v := ?_) (some 2) rfl rfl (by rfl) (fun w' => ?_) ?_
    rotate_left
    · (go_simp; try with_reducible rfl)
    try simp only [Act.put, List.setIfInBounds_toArray, List.set_cons_zero, List.set_cons_succ]
    refine wpT_pureD (v := ?_) (some 3) rfl rfl (by rfl) (fun w' => ?_) ?_
    rotate_left
    · (go_simp; try with_reducible rfl)
    try simp only [Act.put, List.setIfInBounds_toArray, List.set_cons_zero, List.set_cons_succ]
    refine wpT_end ?_
    go_wp2
    go_ret2
    exact ⟨rfl, (HC.out.drew).drew⟩
set_option maxRecDepth 100000 in
set_option maxHeartbeats 1600000 in
theorem enc_Z (op rd rs1 rs2 imm cw : Nat) (hf : formN (op : Int) = 9) (hcw : codesL[op]? = some cw) (hc : cw < 4294967296) (hop : op < 57) (h1 : rd < 32) (h2 : rs1 < 32) (h3 : rs2 < 32) (hi : imm < 4294967296) (W : World) (h : LaidOk W) :
    Calls Tryd.prog 12 #[.agg #[.int .i64 (op : Int), .int .i64 (rd : Int), .int .i64 (rs1 : Int), .int .i64 (rs2 : Int), .int .u32 (imm : Int)]] W fun e w' => e = .returned (.tuple #[.int .u32 ((cw ||| rd * 128 ||| rs1 * 32768 ||| (imm * 1048576 % 4294967296) : Nat) : Int), .bool (decide (imm < 4096) && decide (rs2 = 0))]) ∧ Chg [] W w' := by
  have c0 := h op cw hcw
  obtain ⟨B, hB⟩ : ∃ B, B = W.heap.size := ⟨_, rfl⟩
  obtain ⟨V, hV⟩ : ∃ V, V = (W.alloc (.cells #[.int .i64 (op : Int), .int .i64 (rd : Int), .int .i64 (rs1 : Int), .int .i64 (rs2 : Int), .int .u32 (imm : Int)] 26)).alloc (.cells #[.int .i64 (rd : Int), .int .i64 (rs1 : Int), .int .i64 (rs2 : Int)] 3) := ⟨_, rfl⟩
  have hC : Chg [] W V := by rw [hV]; exact ((Chg.refl _ _).alloc _).alloc _
  have rb : V.row? B = some #[.int .i64 (op : Int), .int .i64 (rd : Int), .int .i64 (rs1 : Int), .int .i64 (rs2 : Int), .int .u32 (imm : Int)] := by
    rw [hV, row_alloc_past _ _ _ (by simp; omega)]; exact row_alloc_at _ _ _ _ hB
  have rr : V.row? (B + 1) = some #[.int .i64 (rd : Int), .int .i64 (rs1 : Int), .int .i64 (rs2 : Int)] := by
    rw [hV]; exact row_alloc_at _ _ _ _ (by simp; omega)
  have c : V.cell? ⟨0, op, none⟩ = some (.int .u32 (cw : Int)) := by
    rw [World.cell?_of_block (w := W) (hC.block 0 (World.block_lt_of_cell? W _ c0) (by simp))]; exact c0
  have HR := Lib.hid (reg_any (w := V) (B := B + 1) (n := 3) (c := 3) [(rd : Int), (rs1 : Int), (rs2 : Int)] rfl (by omega) (fun j u hu => by
    rw [row_cell rr]; revert hu; match j with | 0 => intro hu; cases hu; rfl | 1 => intro hu; cases hu; rfl | 2 => intro hu; cases hu; rfl | _ + 3 => intro hu; cases hu))
  have HF : Hid (∀ w, Calls Tryd.prog 15 #[.int .i64 (op : Int)] w fun e w' => e = .returned (.int .i64 9) ∧ w' = w) := Lib.hid fun w => by rw [← hf]; exact form_any op w
  have b0 : V.cell? ⟨B, 0, none⟩ = some (.int .i64 (op : Int)) := by rw [row_cell rb]; rfl
  have b1 : V.cell? ⟨B, 1, none⟩ = some (.int .i64 (rd : Int)) := by rw [row_cell rb]; rfl
  have b2 : V.cell? ⟨B, 2, none⟩ = some (.int .i64 (rs1 : Int)) := by rw [row_cell rb]; rfl
  have b3 : V.cell? ⟨B, 3, none⟩ = some (.int .i64 (rs2 : Int)) := by rw [row_cell rb]; rfl
  have b4 : V.cell? ⟨B, 4, none⟩ = some (.int .u32 (imm : Int)) := by rw [row_cell rb]; rfl
  have HC := Lib.hid hC
  have hall : ([(rd : Int), (rs1 : Int), (rs2 : Int)] : List Int).all regB = true := by simp [regB]; omega
  have HALL := Lib.hid hall
  have hopI : (op : Int) < 57 := by omega
  have w1 : IntKind.u32.wrap (rd : Int) = rd := by rw [u32w]; omega
  have w2 : IntKind.u32.wrap (rs1 : Int) = rs1 := by rw [u32w]; omega
  have w3 : IntKind.u32.wrap (rs2 : Int) = rs2 := by rw [u32w]; omega
  have m1 : IntKind.u32.wrap ((rd : Int) * 128) = ((rd * 128 : Nat) : Int) := by rw [u32w]; omega
  have m2 : IntKind.u32.wrap ((rs1 : Int) * 32768) = ((rs1 * 32768 : Nat) : Int) := by rw [u32w]; omega
  have m3 : IntKind.u32.wrap ((rs2 : Int) * 1048576) = ((rs2 * 1048576 : Nat) : Int) := by rw [u32w]; omega
  obtain ⟨a1, ha1⟩ : ∃ a, a = rd * 128 := ⟨_, rfl⟩
  obtain ⟨a2, ha2⟩ : ∃ a, a = rs1 * 32768 := ⟨_, rfl⟩
  obtain ⟨a3, ha3⟩ : ∃ a, a = rs2 * 1048576 := ⟨_, rfl⟩
  rw [← ha1] at m1
  rw [← ha2] at m2
  rw [← ha3] at m3
  have l1 : a1 < 4294967296 := by omega
  have l2 : a2 < 4294967296 := by omega
  have l3 : a3 < 4294967296 := by omega
  have mi : IntKind.u32.wrap ((imm : Int) * 1048576) = ((imm * 1048576 % 4294967296 : Nat) : Int) := by rw [u32w]; omega
  obtain ⟨ai, hai⟩ : ∃ a, a = imm * 1048576 % 4294967296 := ⟨_, rfl⟩
  rw [← hai] at mi
  have li : ai < 4294967296 := by omega
  have e1 : bits .or .u32 (cw : Int) (a1 : Int) = ((cw ||| a1 : Nat) : Int) := or32 _ _ hc l1
  have hb1 := or_lt hc l1
  obtain ⟨d1, hd1⟩ : ∃ d, d = cw ||| a1 := ⟨_, rfl⟩
  rw [← hd1] at e1 hb1
  have e2 : bits .or .u32 (d1 : Int) (a2 : Int) = ((d1 ||| a2 : Nat) : Int) := or32 _ _ hb1 l2
  have hb2 := or_lt hb1 l2
  obtain ⟨d2, hd2⟩ : ∃ d, d = d1 ||| a2 := ⟨_, rfl⟩
  rw [← hd2] at e2 hb2
  have e3 : bits .or .u32 (d2 : Int) (ai : Int) = ((d2 ||| ai : Nat) : Int) := or32 _ _ hb2 li
  have hb3 := or_lt hb2 li
  obtain ⟨d3, hd3⟩ : ∃ d, d = d2 ||| ai := ⟨_, rfl⟩
  rw [← hd3] at e3 hb3
  have hres : cw ||| rd * 128 ||| rs1 * 32768 ||| imm * 1048576 % 4294967296 = d3 := by rw [hd3, hd2, hd1, ha1, ha2, hai]
  rw [hres]
  have zq : decide ((imm : Int) < 4096) = decide (imm < 4096) := by rw [Bool.eq_iff_iff]; simp; omega
  obtain ⟨q, hq⟩ : ∃ p, p = decide (imm < 4096) := ⟨_, rfl⟩
  rw [← hq] at zq ⊢
  have zp : ((rs2 : Int) == 0) = decide (rs2 = 0) := eqz rs2
  obtain ⟨p, hp⟩ : ∃ p, p = decide (rs2 = 0) := ⟨_, rfl⟩
  rw [← hp] at zp ⊢
  clear hd3 hd2 hd1 hb3 hb2 hb1 ha1 ha2 ha3 hq hp hres hai li
  clear h c0 hC rb rr hall hf hcw hc hop h1 h2 h3 hi l1 l2 l3
  go_enter Tryd.func12, Tryd.ntmps12
  go_wp2_with fail
  refine (HF.out _).mono ?_
  rintro e w' ⟨rfl, rfl⟩
  go_wp2_with fail
  rw [← hB, ← hV]
  clear hV hB
  refine HR.out.mono ?_
  rintro e w' ⟨rfl, rfl⟩
  rw [HALL.out]
  go_wp2_with fail
  refine wp_region_C (fun w => w.cell? ⟨B, 1, none⟩ = some (.int .i64 (rd : Int)) ∧ w.cell? ⟨B, 2, none⟩ = some (.int .i64 (rs1 : Int)) ∧ w.cell? ⟨B, 3, none⟩ = some (.int .i64 (rs2 : Int))) [(0, 0), (1, 1), (2, 0), (3, 0), (4, 0), (5, 1), (6, 0), (7, 0), (8, 0), (9, 1), (10, 0), (11, 0), (12, 0), (13, 0), (14, 0)] rfl (by kernel_rfl) ?hSA ?hTA
  case hSA => exact ⟨b1, b2, b3⟩
  refine wpT_pureD (v := ?_) (some 27) rfl rfl (by rfl) (fun w' => ?_) ?_
  rotate_left
  · (go_simp; try with_reducible rfl)
  try simp only [Act.put, List.setIfInBounds_toArray, List.set_cons_zero, List.set_cons_succ]
  refine wpT_readD (v := ?_) (some 28) rfl rfl (by rfl) (fun w' hw => ?_) ?_
  rotate_left
  · (obtain ⟨q0, q1, q2⟩ := hw; go_simp; try with_reducible rfl)
  try simp only [Act.put, List.setIfInBounds_toArray, List.set_cons_zero, List.set_cons_succ]
  refine wpT_pureD (v := ?_) (some 29) rfl rfl (by rfl) (fun w' => ?_) ?_
  rotate_left
  · (go_simp; try with_reducible rfl)
  try simp only [Act.put, List.setIfInBounds_toArray, List.set_cons_zero, List.set_cons_succ]
  refine wpT_pureD (v := ?_) (some 30) rfl rfl (by rfl) (fun w' => ?_) ?_
  rotate_left
  · (go_simp; try with_reducible rfl)
  try simp only [Act.put, List.setIfInBounds_toArray, List.set_cons_zero, List.set_cons_succ]
  refine wpT_pureD (v := ?_) (some 31) rfl rfl (by rfl) (fun w' => ?_) ?_
  rotate_left
  · (go_simp; try with_reducible rfl)
  try simp only [Act.put, List.setIfInBounds_toArray, List.set_cons_zero, List.set_cons_succ]
  refine wpT_readD (v := ?_) (some 32) rfl rfl (by rfl) (fun w' hw => ?_) ?_
  rotate_left
  · (obtain ⟨q0, q1, q2⟩ := hw; go_simp; try with_reducible rfl)
  try simp only [Act.put, List.setIfInBounds_toArray, List.set_cons_zero, List.set_cons_succ]
  refine wpT_pureD (v := ?_) (some 33) rfl rfl (by rfl) (fun w' => ?_) ?_
  rotate_left
  · (go_simp; try with_reducible rfl)
  try simp only [Act.put, List.setIfInBounds_toArray, List.set_cons_zero, List.set_cons_succ]
  refine wpT_pureD (v := ?_) (some 34) rfl rfl (by rfl) (fun w' => ?_) ?_
  rotate_left
  · (go_simp; try with_reducible rfl)
  try simp only [Act.put, List.setIfInBounds_toArray, List.set_cons_zero, List.set_cons_succ]
  refine wpT_pureD (v := ?_) (some 35) rfl rfl (by rfl) (fun w' => ?_) ?_
  rotate_left
  · (go_simp; try with_reducible rfl)
  try simp only [Act.put, List.setIfInBounds_toArray, List.set_cons_zero, List.set_cons_succ]
  refine wpT_readD (v := ?_) (some 36) rfl rfl (by rfl) (fun w' hw => ?_) ?_
  rotate_left
  · (obtain ⟨q0, q1, q2⟩ := hw; go_simp; try with_reducible rfl)
  try simp only [Act.put, List.setIfInBounds_toArray, List.set_cons_zero, List.set_cons_succ]
  refine wpT_pureD (v := ?_) (some 37) rfl rfl (by rfl) (fun w' => ?_) ?_
  rotate_left
  · (go_simp; try with_reducible rfl)
  try simp only [Act.put, List.setIfInBounds_toArray, List.set_cons_zero, List.set_cons_succ]
  refine wpT_pureD (v := ?_) (some 38) rfl rfl (by rfl) (fun w' => ?_) ?_
  rotate_left
  · (go_simp; try with_reducible rfl)
  try simp only [Act.put, List.setIfInBounds_toArray, List.set_cons_zero, List.set_cons_succ]
  refine wpT_pureD (v := ?_) (some 5) rfl rfl (by rfl) (fun w' => ?_) ?_
  rotate_left
  · (go_simp; try with_reducible rfl)
  try simp only [Act.put, List.setIfInBounds_toArray, List.set_cons_zero, List.set_cons_succ]
  refine wpT_pureD (v := ?_) (some 6) rfl rfl (by rfl) (fun w' => ?_) ?_
  rotate_left
  · (go_simp; try with_reducible rfl)
  try simp only [Act.put, List.setIfInBounds_toArray, List.set_cons_zero, List.set_cons_succ]
  refine wpT_pureD (v := ?_) (some 7) rfl rfl (by rfl) (fun w' => ?_) ?_
  rotate_left
  · (go_simp; try with_reducible rfl)
  try simp only [Act.put, List.setIfInBounds_toArray, List.set_cons_zero, List.set_cons_succ]
  refine wpT_end ?_
  go_wp2_with fail
  refine (HF.out _).mono ?_
  rintro e w'' ⟨rfl, rfl⟩
  cases q
  · go_wp2_with fail
    refine wp_region_C (fun w => w.cell? ⟨B, 4, none⟩ = some (.int .u32 (imm : Int)) ∧ w.cell? ⟨B, 3, none⟩ = some (.int .i64 (rs2 : Int))) [(0, 0), (1, 0), (2, 0), (3, 0), (4, 0), (5, 0), (6, 1), (7, 0), (8, 0), (9, 0), (10, 1), (11, 0), (12, 0), (13, 0), (14, 1), (15, 0), (16, 0), (17, 0), (18, 0)] rfl (by kernel_rfl) ?hSZf ?hTZf
    case hSZf => exact ⟨b4, b3⟩
    refine wpT_pureD (v := ?_) (some 181) rfl rfl (by rfl) (fun w' => ?_) ?_
    rotate_left
    · (go_simp; try with_reducible rfl)
    try simp only [Act.put, List.setIfInBounds_toArray, List.set_cons_zero, List.set_cons_succ]
    refine wpT_pureD (v := ?_) (some 182) rfl rfl (by rfl) (fun w' => ?_) ?_
    rotate_left
    · (go_simp; try with_reducible rfl)
    try simp only [Act.put, List.setIfInBounds_toArray, List.set_cons_zero, List.set_cons_succ]
    refine wpT_pureD (v := ?_) (some 183) rfl rfl (by rfl) (fun w' => ?_) ?_
    rotate_left
    · (go_simp; try with_reducible rfl)
    try simp only [Act.put, List.setIfInBounds_toArray, List.set_cons_zero, List.set_cons_succ]
    refine wpT_pureD (v := ?_) (some 184) rfl rfl (by rfl) (fun w' => ?_) ?_
    rotate_left
    · (go_simp; try with_reducible rfl)
    try simp only [Act.put, List.setIfInBounds_toArray, List.set_cons_zero, List.set_cons_succ]
    refine wpT_pureD (v := ?_) (some 185) rfl rfl (by rfl) (fun w' => ?_) ?_
    rotate_left
    · (go_simp; try with_reducible rfl)
    try simp only [Act.put, List.setIfInBounds_toArray, List.set_cons_zero, List.set_cons_succ]
    refine wpT_pureD (v := ?_) (some 186) rfl rfl (by rfl) (fun w' => ?_) ?_
    rotate_left
    · (go_simp; try with_reducible rfl)
    try simp only [Act.put, List.setIfInBounds_toArray, List.set_cons_zero, List.set_cons_succ]
    refine wpT_readD (v := ?_) (some 187) rfl rfl (by rfl) (fun w' hw => ?_) ?_
    rotate_left
    · (obtain ⟨q0, q1⟩ := hw; go_simp; try with_reducible rfl)
    try simp only [Act.put, List.setIfInBounds_toArray, List.set_cons_zero, List.set_cons_succ]
    refine wpT_pureD (v := ?_) (some 188) rfl rfl (by rfl) (fun w' => ?_) ?_
    rotate_left
    · (go_simp; try with_reducible rfl)
    try simp only [Act.put, List.setIfInBounds_toArray, List.set_cons_zero, List.set_cons_succ]
    refine wpT_pureD (v := ?_) (some 189) rfl rfl (by rfl) (fun w' => ?_) ?_
    rotate_left
    · (go_simp; try with_reducible rfl)
    try simp only [Act.put, List.setIfInBounds_toArray, List.set_cons_zero, List.set_cons_succ]
    refine wpT_pureD (v := ?_) (some 190) rfl rfl (by rfl) (fun w' => ?_) ?_
    rotate_left
    · (go_simp; try with_reducible rfl)
    try simp only [Act.put, List.setIfInBounds_toArray, List.set_cons_zero, List.set_cons_succ]
    refine wpT_readD (v := ?_) (some 191) rfl rfl (by rfl) (fun w' hw => ?_) ?_
    rotate_left
    · (obtain ⟨q0, q1⟩ := hw; go_simp; try with_reducible rfl)
    try simp only [Act.put, List.setIfInBounds_toArray, List.set_cons_zero, List.set_cons_succ]
    refine wpT_pureD (v := ?_) (some 192) rfl rfl (by rfl) (fun w' => ?_) ?_
    rotate_left
    · (go_simp; try with_reducible rfl)
    try simp only [Act.put, List.setIfInBounds_toArray, List.set_cons_zero, List.set_cons_succ]
    refine wpT_pureD (v := ?_) (some 193) rfl rfl (by rfl) (fun w' => ?_) ?_
    rotate_left
    · (go_simp; try with_reducible rfl)
    try simp only [Act.put, List.setIfInBounds_toArray, List.set_cons_zero, List.set_cons_succ]
    refine wpT_skipD (some 194) rfl rfl (by rfl) ?_
    try simp only [Act.put, List.setIfInBounds_toArray, List.set_cons_zero, List.set_cons_succ]
    refine wpT_skipD (some 195) rfl rfl (by rfl) ?_
    try simp only [Act.put, List.setIfInBounds_toArray, List.set_cons_zero, List.set_cons_succ]
    refine wpT_skipD (some 196) rfl rfl (by rfl) ?_
    try simp only [Act.put, List.setIfInBounds_toArray, List.set_cons_zero, List.set_cons_succ]
    refine wpT_pureD (v := ?_) (some 197) rfl rfl (by rfl) (fun w' => ?_) ?_
    rotate_left
    · (go_simp; try with_reducible rfl)
    try simp only [Act.put, List.setIfInBounds_toArray, List.set_cons_zero, List.set_cons_succ]
    refine wpT_pureD (v := ?_) (some 2) rfl rfl (by rfl) (fun w' => ?_) ?_
    rotate_left
    · (go_simp; try with_reducible rfl)
    try simp only [Act.put, List.setIfInBounds_toArray, List.set_cons_zero, List.set_cons_succ]
    refine wpT_pureD (v := ?_) (some 3) rfl rfl (by rfl) (fun w' => ?_) ?_
    rotate_left
    · (go_simp; try with_reducible rfl)
    try simp only [Act.put, List.setIfInBounds_toArray, List.set_cons_zero, List.set_cons_succ]
    refine wpT_end ?_
    go_wp2
    go_ret2
    exact ⟨rfl, (HC.out.drew).drew⟩
  · go_wp2_with fail
    refine wp_region_C (fun w => w.cell? ⟨B, 4, none⟩ = some (.int .u32 (imm : Int)) ∧ w.cell? ⟨B, 3, none⟩ = some (.int .i64 (rs2 : Int))) [(0, 0), (1, 0), (2, 0), (3, 0), (4, 0), (5, 0), (6, 1), (7, 0), (8, 0), (9, 0), (10, 1), (11, 0), (12, 0), (13, 0), (14, 1), (15, 0), (16, 0), (17, 0), (18, 0)] rfl (by kernel_rfl) ?hSZt ?hTZt
    case hSZt => exact ⟨b4, b3⟩
    refine wpT_pureD (v := ?_) (some 181) rfl rfl (by rfl) (fun w' => ?_) ?_
    rotate_left
    · (go_simp; try with_reducible rfl)
    try simp only [Act.put, List.setIfInBounds_toArray, List.set_cons_zero, List.set_cons_succ]
    refine wpT_pureD (v := ?_) (some 182) rfl rfl (by rfl) (fun w' => ?_) ?_
    rotate_left
    · (go_simp; try with_reducible rfl)
    try simp only [Act.put, List.setIfInBounds_toArray, List.set_cons_zero, List.set_cons_succ]
    refine wpT_pureD (v := ?_) (some 183) rfl rfl (by rfl) (fun w' => ?_) ?_
    rotate_left
    · (go_simp; try with_reducible rfl)
    try simp only [Act.put, List.setIfInBounds_toArray, List.set_cons_zero, List.set_cons_succ]
    refine wpT_pureD (v := ?_) (some 184) rfl rfl (by rfl) (fun w' => ?_) ?_
    rotate_left
    · (go_simp; try with_reducible rfl)
    try simp only [Act.put, List.setIfInBounds_toArray, List.set_cons_zero, List.set_cons_succ]
    refine wpT_pureD (v := ?_) (some 185) rfl rfl (by rfl) (fun w' => ?_) ?_
    rotate_left
    · (go_simp; try with_reducible rfl)
    try simp only [Act.put, List.setIfInBounds_toArray, List.set_cons_zero, List.set_cons_succ]
    refine wpT_pureD (v := ?_) (some 186) rfl rfl (by rfl) (fun w' => ?_) ?_
    rotate_left
    · (go_simp; try with_reducible rfl)
    try simp only [Act.put, List.setIfInBounds_toArray, List.set_cons_zero, List.set_cons_succ]
    refine wpT_readD (v := ?_) (some 187) rfl rfl (by rfl) (fun w' hw => ?_) ?_
    rotate_left
    · (obtain ⟨q0, q1⟩ := hw; go_simp; try with_reducible rfl)
    try simp only [Act.put, List.setIfInBounds_toArray, List.set_cons_zero, List.set_cons_succ]
    refine wpT_pureD (v := ?_) (some 188) rfl rfl (by rfl) (fun w' => ?_) ?_
    rotate_left
    · (go_simp; try with_reducible rfl)
    try simp only [Act.put, List.setIfInBounds_toArray, List.set_cons_zero, List.set_cons_succ]
    refine wpT_pureD (v := ?_) (some 189) rfl rfl (by rfl) (fun w' => ?_) ?_
    rotate_left
    · (go_simp; try with_reducible rfl)
    try simp only [Act.put, List.setIfInBounds_toArray, List.set_cons_zero, List.set_cons_succ]
    refine wpT_pureD (v := ?_) (some 190) rfl rfl (by rfl) (fun w' => ?_) ?_
    rotate_left
    · (go_simp; try with_reducible rfl)
    try simp only [Act.put, List.setIfInBounds_toArray, List.set_cons_zero, List.set_cons_succ]
    refine wpT_readD (v := ?_) (some 191) rfl rfl (by rfl) (fun w' hw => ?_) ?_
    rotate_left
    · (obtain ⟨q0, q1⟩ := hw; go_simp; try with_reducible rfl)
    try simp only [Act.put, List.setIfInBounds_toArray, List.set_cons_zero, List.set_cons_succ]
    refine wpT_pureD (v := ?_) (some 192) rfl rfl (by rfl) (fun w' => ?_) ?_
    rotate_left
    · (go_simp; try with_reducible rfl)
    try simp only [Act.put, List.setIfInBounds_toArray, List.set_cons_zero, List.set_cons_succ]
    refine wpT_pureD (v := ?_) (some 193) rfl rfl (by rfl) (fun w' => ?_) ?_
    rotate_left
    · (go_simp; try with_reducible rfl)
    try simp only [Act.put, List.setIfInBounds_toArray, List.set_cons_zero, List.set_cons_succ]
    refine wpT_pureD (v := ?_) (some 194) rfl rfl (by rfl) (fun w' => ?_) ?_
    rotate_left
    · (go_simp; try with_reducible rfl)
    try simp only [Act.put, List.setIfInBounds_toArray, List.set_cons_zero, List.set_cons_succ]
    refine wpT_readD (v := ?_) (some 195) rfl rfl (by rfl) (fun w' hw => ?_) ?_
    rotate_left
    · (obtain ⟨q0, q1⟩ := hw; go_simp; try with_reducible rfl)
    try simp only [Act.put, List.setIfInBounds_toArray, List.set_cons_zero, List.set_cons_succ]
    refine wpT_pureD (v := ?_) (some 196) rfl rfl (by rfl) (fun w' => ?_) ?_
    rotate_left
    · (go_simp; try with_reducible rfl)
    try simp only [Act.put, List.setIfInBounds_toArray, List.set_cons_zero, List.set_cons_succ]
    refine wpT_pureD (v := ?_) (some 197) rfl rfl (by rfl) (fun w' => ?_) ?_
    rotate_left
    · (go_simp; try with_reducible rfl)
    try simp only [Act.put, List.setIfInBounds_toArray, List.set_cons_zero, List.set_cons_succ]
    refine wpT_pureD (v := ?_) (some 2) rfl rfl (by rfl) (fun w' => ?_) ?_
    rotate_left
    · (go_simp; try with_reducible rfl)
    try simp only [Act.put, List.setIfInBounds_toArray, List.set_cons_zero, List.set_cons_succ]
    refine wpT_pureD (v := ?_) (some 3) rfl rfl (by rfl) (fun w' => ?_) ?_
    rotate_left
    · (go_simp; try with_reducible rfl)
    try simp only [Act.put, List.setIfInBounds_toArray, List.set_cons_zero, List.set_cons_succ]
    refine wpT_end ?_
    go_wp2
    go_ret2
    exact ⟨rfl, (HC.out.drew).drew⟩
set_option maxRecDepth 100000 in
set_option maxHeartbeats 1600000 in
theorem enc_N (op rd rs1 rs2 imm cw : Nat) (hf : formN (op : Int) = 7) (hcw : codesL[op]? = some cw) (hc : cw < 4294967296) (hop : op < 57) (h1 : rd < 32) (h2 : rs1 < 32) (h3 : rs2 < 32) (hi : imm < 4294967296) (W : World) (h : LaidOk W) :
    Calls Tryd.prog 12 #[.agg #[.int .i64 (op : Int), .int .i64 (rd : Int), .int .i64 (rs1 : Int), .int .i64 (rs2 : Int), .int .u32 (imm : Int)]] W fun e w' => e = .returned (.tuple #[.int .u32 ((cw : Nat) : Int), .bool (decide (rd = 0) && decide (rs1 = 0) && decide (rs2 = 0) && decide (imm = 0))]) ∧ Chg [] W w' := by
  have c0 := h op cw hcw
  obtain ⟨B, hB⟩ : ∃ B, B = W.heap.size := ⟨_, rfl⟩
  obtain ⟨V, hV⟩ : ∃ V, V = (W.alloc (.cells #[.int .i64 (op : Int), .int .i64 (rd : Int), .int .i64 (rs1 : Int), .int .i64 (rs2 : Int), .int .u32 (imm : Int)] 26)).alloc (.cells #[.int .i64 (rd : Int), .int .i64 (rs1 : Int), .int .i64 (rs2 : Int)] 3) := ⟨_, rfl⟩
  have hC : Chg [] W V := by rw [hV]; exact ((Chg.refl _ _).alloc _).alloc _
  have rb : V.row? B = some #[.int .i64 (op : Int), .int .i64 (rd : Int), .int .i64 (rs1 : Int), .int .i64 (rs2 : Int), .int .u32 (imm : Int)] := by
    rw [hV, row_alloc_past _ _ _ (by simp; omega)]; exact row_alloc_at _ _ _ _ hB
  have rr : V.row? (B + 1) = some #[.int .i64 (rd : Int), .int .i64 (rs1 : Int), .int .i64 (rs2 : Int)] := by
    rw [hV]; exact row_alloc_at _ _ _ _ (by simp; omega)
  have c : V.cell? ⟨0, op, none⟩ = some (.int .u32 (cw : Int)) := by
    rw [World.cell?_of_block (w := W) (hC.block 0 (World.block_lt_of_cell? W _ c0) (by simp))]; exact c0
  have HR := Lib.hid (reg_any (w := V) (B := B + 1) (n := 3) (c := 3) [(rd : Int), (rs1 : Int), (rs2 : Int)] rfl (by omega) (fun j u hu => by
    rw [row_cell rr]; revert hu; match j with | 0 => intro hu; cases hu; rfl | 1 => intro hu; cases hu; rfl | 2 => intro hu; cases hu; rfl | _ + 3 => intro hu; cases hu))
  have HF : Hid (∀ w, Calls Tryd.prog 15 #[.int .i64 (op : Int)] w fun e w' => e = .returned (.int .i64 7) ∧ w' = w) := Lib.hid fun w => by rw [← hf]; exact form_any op w
  have b0 : V.cell? ⟨B, 0, none⟩ = some (.int .i64 (op : Int)) := by rw [row_cell rb]; rfl
  have b1 : V.cell? ⟨B, 1, none⟩ = some (.int .i64 (rd : Int)) := by rw [row_cell rb]; rfl
  have b2 : V.cell? ⟨B, 2, none⟩ = some (.int .i64 (rs1 : Int)) := by rw [row_cell rb]; rfl
  have b3 : V.cell? ⟨B, 3, none⟩ = some (.int .i64 (rs2 : Int)) := by rw [row_cell rb]; rfl
  have b4 : V.cell? ⟨B, 4, none⟩ = some (.int .u32 (imm : Int)) := by rw [row_cell rb]; rfl
  have HC := Lib.hid hC
  have hall : ([(rd : Int), (rs1 : Int), (rs2 : Int)] : List Int).all regB = true := by simp [regB]; omega
  have HALL := Lib.hid hall
  have hopI : (op : Int) < 57 := by omega
  have w1 : IntKind.u32.wrap (rd : Int) = rd := by rw [u32w]; omega
  have w2 : IntKind.u32.wrap (rs1 : Int) = rs1 := by rw [u32w]; omega
  have w3 : IntKind.u32.wrap (rs2 : Int) = rs2 := by rw [u32w]; omega
  have m1 : IntKind.u32.wrap ((rd : Int) * 128) = ((rd * 128 : Nat) : Int) := by rw [u32w]; omega
  have m2 : IntKind.u32.wrap ((rs1 : Int) * 32768) = ((rs1 * 32768 : Nat) : Int) := by rw [u32w]; omega
  have m3 : IntKind.u32.wrap ((rs2 : Int) * 1048576) = ((rs2 * 1048576 : Nat) : Int) := by rw [u32w]; omega
  obtain ⟨a1, ha1⟩ : ∃ a, a = rd * 128 := ⟨_, rfl⟩
  obtain ⟨a2, ha2⟩ : ∃ a, a = rs1 * 32768 := ⟨_, rfl⟩
  obtain ⟨a3, ha3⟩ : ∃ a, a = rs2 * 1048576 := ⟨_, rfl⟩
  rw [← ha1] at m1
  rw [← ha2] at m2
  rw [← ha3] at m3
  have l1 : a1 < 4294967296 := by omega
  have l2 : a2 < 4294967296 := by omega
  have l3 : a3 < 4294967296 := by omega
  have HRB := Lib.hid rb
  have zp1 : ((rd : Int) == 0) = decide (rd = 0) := eqz rd
  obtain ⟨p1, hp1⟩ : ∃ p, p = decide (rd = 0) := ⟨_, rfl⟩
  rw [← hp1] at zp1 ⊢
  have zp2 : ((rs1 : Int) == 0) = decide (rs1 = 0) := eqz rs1
  obtain ⟨p2, hp2⟩ : ∃ p, p = decide (rs1 = 0) := ⟨_, rfl⟩
  rw [← hp2] at zp2 ⊢
  have zp3 : ((rs2 : Int) == 0) = decide (rs2 = 0) := eqz rs2
  obtain ⟨p3, hp3⟩ : ∃ p, p = decide (rs2 = 0) := ⟨_, rfl⟩
  rw [← hp3] at zp3 ⊢
  have zp4 : ((imm : Int) == 0) = decide (imm = 0) := eqz imm
  obtain ⟨p4, hp4⟩ : ∃ p, p = decide (imm = 0) := ⟨_, rfl⟩
  rw [← hp4] at zp4 ⊢
  clear hp1 hp2 hp3 hp4 ha1 ha2 ha3
  clear h c0 hC rb rr hall hf hcw hc hop h1 h2 h3 hi l1 l2 l3
  go_enter Tryd.func12, Tryd.ntmps12
  go_wp2_with fail
  refine (HF.out _).mono ?_
  rintro e w' ⟨rfl, rfl⟩
  go_wp2_with fail
  rw [← hB, ← hV]
  clear hV hB
  refine HR.out.mono ?_
  rintro e w' ⟨rfl, rfl⟩
  rw [HALL.out]
  go_wp2_with fail
  refine wp_region_C (fun w => w.cell? ⟨B, 1, none⟩ = some (.int .i64 (rd : Int)) ∧ w.cell? ⟨B, 2, none⟩ = some (.int .i64 (rs1 : Int)) ∧ w.cell? ⟨B, 3, none⟩ = some (.int .i64 (rs2 : Int))) [(0, 0), (1, 1), (2, 0), (3, 0), (4, 0), (5, 1), (6, 0), (7, 0), (8, 0), (9, 1), (10, 0), (11, 0), (12, 0), (13, 0), (14, 0)] rfl (by kernel_rfl) ?hSA ?hTA
  case hSA => exact ⟨b1, b2, b3⟩
  refine wpT_pureD (v := ?_) (some 27) rfl rfl (by rfl) (fun w' => ?_) ?_
  rotate_left
  · (go_simp; try with_reducible rfl)
  try simp only [Act.put, List.setIfInBounds_toArray, List.set_cons_zero, List.set_cons_succ]
  refine wpT_readD (v := ?_) (some 28) rfl rfl (by rfl) (fun w' hw => ?_) ?_
  rotate_left
  · (obtain ⟨q0, q1, q2⟩ := hw; go_simp; try with_reducible rfl)
  try simp only [Act.put, List.setIfInBounds_toArray, List.set_cons_zero, List.set_cons_succ]
  refine wpT_pureD (v := ?_) (some 29) rfl rfl (by rfl) (fun w' => ?_) ?_
  rotate_left
  · (go_simp; try with_reducible rfl)
  try simp only [Act.put, List.setIfInBounds_toArray, List.set_cons_zero, List.set_cons_succ]
  refine wpT_pureD (v := ?_) (some 30) rfl rfl (by rfl) (fun w' => ?_) ?_
  rotate_left
  · (go_simp; try with_reducible rfl)
  try simp only [Act.put, List.setIfInBounds_toArray, List.set_cons_zero, List.set_cons_succ]
  refine wpT_pureD (v := ?_) (some 31) rfl rfl (by rfl) (fun w' => ?_) ?_
  rotate_left
  · (go_simp; try with_reducible rfl)
  try simp only [Act.put, List.setIfInBounds_toArray, List.set_cons_zero, List.set_cons_succ]
  refine wpT_readD (v := ?_) (some 32) rfl rfl (by rfl) (fun w' hw => ?_) ?_
  rotate_left
  · (obtain ⟨q0, q1, q2⟩ := hw; go_simp; try with_reducible rfl)
  try simp only [Act.put, List.setIfInBounds_toArray, List.set_cons_zero, List.set_cons_succ]
  refine wpT_pureD (v := ?_) (some 33) rfl rfl (by rfl) (fun w' => ?_) ?_
  rotate_left
  · (go_simp; try with_reducible rfl)
  try simp only [Act.put, List.setIfInBounds_toArray, List.set_cons_zero, List.set_cons_succ]
  refine wpT_pureD (v := ?_) (some 34) rfl rfl (by rfl) (fun w' => ?_) ?_
  rotate_left
  · (go_simp; try with_reducible rfl)
  try simp only [Act.put, List.setIfInBounds_toArray, List.set_cons_zero, List.set_cons_succ]
  refine wpT_pureD (v := ?_) (some 35) rfl rfl (by rfl) (fun w' => ?_) ?_
  rotate_left
  · (go_simp; try with_reducible rfl)
  try simp only [Act.put, List.setIfInBounds_toArray, List.set_cons_zero, List.set_cons_succ]
  refine wpT_readD (v := ?_) (some 36) rfl rfl (by rfl) (fun w' hw => ?_) ?_
  rotate_left
  · (obtain ⟨q0, q1, q2⟩ := hw; go_simp; try with_reducible rfl)
  try simp only [Act.put, List.setIfInBounds_toArray, List.set_cons_zero, List.set_cons_succ]
  refine wpT_pureD (v := ?_) (some 37) rfl rfl (by rfl) (fun w' => ?_) ?_
  rotate_left
  · (go_simp; try with_reducible rfl)
  try simp only [Act.put, List.setIfInBounds_toArray, List.set_cons_zero, List.set_cons_succ]
  refine wpT_pureD (v := ?_) (some 38) rfl rfl (by rfl) (fun w' => ?_) ?_
  rotate_left
  · (go_simp; try with_reducible rfl)
  try simp only [Act.put, List.setIfInBounds_toArray, List.set_cons_zero, List.set_cons_succ]
  refine wpT_pureD (v := ?_) (some 5) rfl rfl (by rfl) (fun w' => ?_) ?_
  rotate_left
  · (go_simp; try with_reducible rfl)
  try simp only [Act.put, List.setIfInBounds_toArray, List.set_cons_zero, List.set_cons_succ]
  refine wpT_pureD (v := ?_) (some 6) rfl rfl (by rfl) (fun w' => ?_) ?_
  rotate_left
  · (go_simp; try with_reducible rfl)
  try simp only [Act.put, List.setIfInBounds_toArray, List.set_cons_zero, List.set_cons_succ]
  refine wpT_pureD (v := ?_) (some 7) rfl rfl (by rfl) (fun w' => ?_) ?_
  rotate_left
  · (go_simp; try with_reducible rfl)
  try simp only [Act.put, List.setIfInBounds_toArray, List.set_cons_zero, List.set_cons_succ]
  refine wpT_end ?_
  go_wp2_with fail
  refine (HF.out _).mono ?_
  rintro e w'' ⟨rfl, rfl⟩
  go_wp2_with fail
  refine wp_region_C (fun w => w.row? B = some #[.int .i64 (op : Int), .int .i64 (rd : Int), .int .i64 (rs1 : Int), .int .i64 (rs2 : Int), .int .u32 (imm : Int)] ∧ w.cell? ⟨B, 0, none⟩ = some (.int .i64 (op : Int))) [(0, 0), (1, 1), (2, 0), (3, 1), (4, 0), (5, 0), (6, 0), (7, 0)] rfl (by kernel_rfl) ?hSN ?hTN
  case hSN => exact ⟨HRB.out, b0⟩
  refine wpT_pureD (v := ?_) (some 198) rfl rfl (by rfl) (fun w' => ?_) ?_
  rotate_left
  · (go_simp; try with_reducible rfl)
  try simp only [Act.put, List.setIfInBounds_toArray, List.set_cons_zero, List.set_cons_succ]
  refine wpT_load_part a26 [.int .i64 (op : Int), .int .i64 (rd : Int), .int .i64 (rs1 : Int), .int .i64 (rs2 : Int), .int .u32 (imm : Int)] (some 199) _ rfl rfl rfl (by rfl) rfl rfl (fun w' hw j u hu => by rw [Nat.zero_add, row_cell hw.1]; simpa using hu) ?_
  try simp only [Act.put, List.setIfInBounds_toArray, List.set_cons_zero, List.set_cons_succ]
  refine wpT_pureD (v := ?_) (some 200) rfl rfl (by rfl) (fun w' => ?_) ?_
  rotate_left
  · (go_simp; try with_reducible rfl)
  try simp only [Act.put, List.setIfInBounds_toArray, List.set_cons_zero, List.set_cons_succ]
  refine wpT_readD (v := ?_) (some 201) rfl rfl (by rfl) (fun w' hw => ?_) ?_
  rotate_left
  · (obtain ⟨q0, q1⟩ := hw; go_simp; try with_reducible rfl)
  try simp only [Act.put, List.setIfInBounds_toArray, List.set_cons_zero, List.set_cons_succ]
  refine wpT_pureD (v := ?_) (some 202) rfl rfl (by rfl) (fun w' => ?_) ?_
  rotate_left
  · (go_simp; try with_reducible rfl)
  try simp only [Act.put, List.setIfInBounds_toArray, List.set_cons_zero, List.set_cons_succ]
  refine wpT_pureD (v := .bool (p1 && p2 && p3 && p4)) (some 203) rfl rfl (by rfl) (fun w' => ?_) ?_
  · (go_simp; cases p1 <;> cases p2 <;> cases p3 <;> cases p4 <;> rfl)
  try simp only [Act.put, List.setIfInBounds_toArray, List.set_cons_zero, List.set_cons_succ]
  refine wpT_pureD (v := ?_) (some 2) rfl rfl (by rfl) (fun w' => ?_) ?_
  rotate_left
  · (go_simp; try with_reducible rfl)
  try simp only [Act.put, List.setIfInBounds_toArray, List.set_cons_zero, List.set_cons_succ]
  refine wpT_pureD (v := ?_) (some 3) rfl rfl (by rfl) (fun w' => ?_) ?_
  rotate_left
  · (go_simp; try with_reducible rfl)
  try simp only [Act.put, List.setIfInBounds_toArray, List.set_cons_zero, List.set_cons_succ]
  refine wpT_end ?_
  go_wp2
  go_ret2
  exact ⟨rfl, (HC.out.drew).drew⟩
set_option maxRecDepth 100000 in
theorem enc_bad1 (op rd rs1 rs2 : Int) (imm : Nat) (hf : formN op = -1) (W : World) :
    Calls Tryd.prog 12 #[.agg #[.int .i64 op, .int .i64 rd, .int .i64 rs1, .int .i64 rs2, .int .u32 (imm : Int)]] W fun e w' => e = .returned (.tuple #[.int .u32 0, .bool false]) ∧ Chg [] W w' := by
  have HF : Hid (∀ w, Calls Tryd.prog 15 #[.int .i64 op] w fun e w' => e = .returned (.int .i64 (-1)) ∧ w' = w) := Lib.hid fun w => by rw [← hf]; exact form_any op w
  have HC : Hid (Chg [] W (W.alloc (.cells #[.int .i64 op, .int .i64 rd, .int .i64 rs1, .int .i64 rs2, .int .u32 (imm : Int)] 26))) := Lib.hid ((Chg.refl _ _).alloc _)
  clear hf
  go_enter Tryd.func12, Tryd.ntmps12
  go_wp2_with fail
  refine (HF.out _).mono ?_
  rintro e w' ⟨rfl, rfl⟩
  go_wp2
  go_ret2
  exact ⟨rfl, HC.out⟩
set_option maxRecDepth 100000 in
theorem enc_bad2 (op rd rs1 rs2 : Int) (imm : Nat) (hf : 0 ≤ formN op) (hall : ([rd, rs1, rs2] : List Int).all regB = false) (W : World) :
    Calls Tryd.prog 12 #[.agg #[.int .i64 op, .int .i64 rd, .int .i64 rs1, .int .i64 rs2, .int .u32 (imm : Int)]] W fun e w' => e = .returned (.tuple #[.int .u32 0, .bool false]) ∧ Chg [] W w' := by
  obtain ⟨k, hk⟩ : ∃ k : Nat, formN op = k := ⟨(formN op).toNat, by omega⟩
  have HF : Hid (∀ w, Calls Tryd.prog 15 #[.int .i64 op] w fun e w' => e = .returned (.int .i64 (k : Int)) ∧ w' = w) := Lib.hid fun w => by rw [← hk]; exact form_any op w
  obtain ⟨B, hB⟩ : ∃ B, B = W.heap.size := ⟨_, rfl⟩
  obtain ⟨V, hV⟩ : ∃ V, V = (W.alloc (.cells #[.int .i64 op, .int .i64 rd, .int .i64 rs1, .int .i64 rs2, .int .u32 (imm : Int)] 26)).alloc (.cells #[.int .i64 rd, .int .i64 rs1, .int .i64 rs2] 3) := ⟨_, rfl⟩
  have hC : Chg [] W V := by rw [hV]; exact ((Chg.refl _ _).alloc _).alloc _
  have rr : V.row? (B + 1) = some #[.int .i64 rd, .int .i64 rs1, .int .i64 rs2] := by
    rw [hV]; exact row_alloc_at _ _ _ _ (by simp; omega)
  have HR := Lib.hid (reg_any (w := V) (B := B + 1) (n := 3) (c := 3) [rd, rs1, rs2] rfl (by omega) (fun j u hu => by
    rw [row_cell rr]; revert hu; match j with | 0 => intro hu; cases hu; rfl | 1 => intro hu; cases hu; rfl | 2 => intro hu; cases hu; rfl | _ + 3 => intro hu; cases hu))
  have HC := Lib.hid hC
  have HALL := Lib.hid hall
  have hk0 : ¬ ((k : Int) < 0) := by omega
  clear hf hk hall hC rr
  go_enter Tryd.func12, Tryd.ntmps12
  go_wp2_with fail
  refine (HF.out _).mono ?_
  rintro e w' ⟨rfl, rfl⟩
  go_wp2_with fail
  rw [← hB, ← hV]
  clear hV hB
  refine HR.out.mono ?_
  rintro e w' ⟨rfl, rfl⟩
  rw [HALL.out]
  go_wp2
  go_ret2
  exact ⟨rfl, HC.out⟩
end Go.Proofs.L
