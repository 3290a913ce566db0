/- Proved here: lemmas and contracts (EncodesWalk) for the laws of this seat, for all values of the stated types; no further condition. -/
import Derived.Test.YtdccfeideihmiaaDoorRefEncode
open Go Go.RowKit Go.Lib
namespace Go.Proofs.L
theorem renc_any (k rd rs1 rs2 imm : Nat) (h1 : 1 ≤ k) (h2 : k < 57) (hrd : rd < 32) (hrs1 : rs1 < 32) (hrs2 : rs2 < 32) (hi : imm < 4294967296) (w : World) :
    Calls Tryd.prog 13 #[.agg #[.int .i64 (k : Int), .int .i64 (rd : Int), .int .i64 (rs1 : Int), .int .i64 (rs2 : Int), .int .i64 (imm : Int)]] w fun e w' => e = .returned (.tuple #[.int .i64 ((encR (frmL k) (wrdC k) rd rs1 rs2 imm : Nat) : Int), .bool (okP (frmL k) rd rs1 rs2 imm)]) ∧ Chg [] w w' := by
  have ho := (ok_iff k rd rs1 rs2 imm _ h1 h2 hrd hrs1 hrs2 hi rfl).2.1
  have hb : okP (frmL k) rd rs1 rs2 imm = decide (decN (encR (frmL k) (wrdC k) rd rs1 rs2 imm) = ⟨k, rd, rs1, rs2, imm⟩) := by
    rw [Bool.eq_iff_iff, ho]; simp
  rw [hb]
  rcases frm_letter k h2 h1 with hl | hl | hl | hl | hl | hl | hl | hl | hl | hl | hl <;> rw [hl]
  · exact renc_U k rd rs1 rs2 imm h1 h2 hl hrd hrs1 hrs2 hi w
  · exact renc_J k rd rs1 rs2 imm h1 h2 hl hrd hrs1 hrs2 hi w
  · exact renc_I k rd rs1 rs2 imm h1 h2 hl hrd hrs1 hrs2 hi w
  · exact renc_B k rd rs1 rs2 imm h1 h2 hl hrd hrs1 hrs2 hi w
  · exact renc_S k rd rs1 rs2 imm h1 h2 hl hrd hrs1 hrs2 hi w
  · exact renc_R k rd rs1 rs2 imm h1 h2 hl hrd hrs1 hrs2 hi w
  · exact renc_T k rd rs1 rs2 imm h1 h2 hl hrd hrs1 hrs2 hi w
  · exact renc_N k rd rs1 rs2 imm h1 h2 hl hrd hrs1 hrs2 hi w
  · exact renc_C k rd rs1 rs2 imm h1 h2 hl hrd hrs1 hrs2 hi w
  · exact renc_Z k rd rs1 rs2 imm h1 h2 hl hrd hrs1 hrs2 hi w
  · exact renc_F k rd rs1 rs2 imm h1 h2 hl hrd hrs1 hrs2 hi w
set_option maxRecDepth 100000 in
theorem renc_bad0 (op rd rs1 rs2 imm : Int) (g0 : decide (op < 1) = true) (w : World) :
    Calls Tryd.prog 13 #[.agg #[.int .i64 op, .int .i64 rd, .int .i64 rs1, .int .i64 rs2, .int .i64 imm]] w fun e w' => e = .returned (.tuple #[.int .i64 0, .bool false]) ∧ Chg [] w w' := by
  obtain ⟨B, hB⟩ : ∃ B, B = w.heap.size := ⟨_, rfl⟩
  obtain ⟨V, hV⟩ : ∃ V, V = w.alloc (.cells #[.int .i64 op, .int .i64 rd, .int .i64 rs1, .int .i64 rs2, .int .i64 imm] 29) := ⟨_, rfl⟩
  have hcV : Chg [] w V := by rw [hV]; exact (Chg.refl _ _).alloc _
  have rb : V.row? B = some #[.int .i64 op, .int .i64 rd, .int .i64 rs1, .int .i64 rs2, .int .i64 imm] := by rw [hV]; exact row_alloc_at _ _ _ _ hB
  obtain ⟨L, hL⟩ : ∃ L, L = V.heap.size := ⟨_, rfl⟩
  have HLI := list_any V
  rw [← hL] at HLI
  have HLI := Lib.hid HLI
  have HCV := Lib.hid hcV
  have HRB := Lib.hid rb
  have HVV := Lib.hid hV
  have HBB := Lib.hid hB
  clear hcV rb hV hB hL
  go_enter Tryd.func13, Tryd.ntmps13
  go_upto_region 1 with (fail)
  rw [← HBB.out, ← HVV.out]
  go_wp2_with fail
  refine HLI.out.mono ?_
  rintro e w1 ⟨rfl, hrow, hc1⟩
  have HC1 := Lib.hid (HCV.out.trans hc1)
  have hrb1 : w1.row? B = some #[.int .i64 op, .int .i64 rd, .int .i64 rs1, .int .i64 rs2, .int .i64 imm] := by rw [hc1.row (row_lt HRB.out) (by simp)]; exact HRB.out
  have c0 : w1.cell? ⟨B, 0, none⟩ = some (.int .i64 op) := by rw [row_cell hrb1]; rfl
  have c1 : w1.cell? ⟨B, 1, none⟩ = some (.int .i64 rd) := by rw [row_cell hrb1]; rfl
  have c2 : w1.cell? ⟨B, 2, none⟩ = some (.int .i64 rs1) := by rw [row_cell hrb1]; rfl
  have c3 : w1.cell? ⟨B, 3, none⟩ = some (.int .i64 rs2) := by rw [row_cell hrb1]; rfl
  clear hrow hc1 hrb1 HLI HRB HCV
  go_wp2
  go_ret2
  exact ⟨rfl, HC1.out⟩
set_option maxRecDepth 100000 in
theorem renc_bad1 (op rd rs1 rs2 imm : Int) (g0 : decide (op < 1) = false) (g1 : decide (57 ≤ op) = true) (w : World) :
    Calls Tryd.prog 13 #[.agg #[.int .i64 op, .int .i64 rd, .int .i64 rs1, .int .i64 rs2, .int .i64 imm]] w fun e w' => e = .returned (.tuple #[.int .i64 0, .bool false]) ∧ Chg [] w w' := by
  obtain ⟨B, hB⟩ : ∃ B, B = w.heap.size := ⟨_, rfl⟩
  obtain ⟨V, hV⟩ : ∃ V, V = w.alloc (.cells #[.int .i64 op, .int .i64 rd, .int .i64 rs1, .int .i64 rs2, .int .i64 imm] 29) := ⟨_, rfl⟩
  have hcV : Chg [] w V := by rw [hV]; exact (Chg.refl _ _).alloc _
  have rb : V.row? B = some #[.int .i64 op, .int .i64 rd, .int .i64 rs1, .int .i64 rs2, .int .i64 imm] := by rw [hV]; exact row_alloc_at _ _ _ _ hB
  obtain ⟨L, hL⟩ : ∃ L, L = V.heap.size := ⟨_, rfl⟩
  have HLI := list_any V
  rw [← hL] at HLI
  have HLI := Lib.hid HLI
  have HCV := Lib.hid hcV
  have HRB := Lib.hid rb
  have HVV := Lib.hid hV
  have HBB := Lib.hid hB
  clear hcV rb hV hB hL
  go_enter Tryd.func13, Tryd.ntmps13
  go_upto_region 1 with (fail)
  rw [← HBB.out, ← HVV.out]
  go_wp2_with fail
  refine HLI.out.mono ?_
  rintro e w1 ⟨rfl, hrow, hc1⟩
  have HC1 := Lib.hid (HCV.out.trans hc1)
  have hrb1 : w1.row? B = some #[.int .i64 op, .int .i64 rd, .int .i64 rs1, .int .i64 rs2, .int .i64 imm] := by rw [hc1.row (row_lt HRB.out) (by simp)]; exact HRB.out
  have c0 : w1.cell? ⟨B, 0, none⟩ = some (.int .i64 op) := by rw [row_cell hrb1]; rfl
  have c1 : w1.cell? ⟨B, 1, none⟩ = some (.int .i64 rd) := by rw [row_cell hrb1]; rfl
  have c2 : w1.cell? ⟨B, 2, none⟩ = some (.int .i64 rs1) := by rw [row_cell hrb1]; rfl
  have c3 : w1.cell? ⟨B, 3, none⟩ = some (.int .i64 rs2) := by rw [row_cell hrb1]; rfl
  clear hrow hc1 hrb1 HLI HRB HCV
  go_wp2
  go_ret2
  exact ⟨rfl, HC1.out⟩
set_option maxRecDepth 100000 in
theorem renc_bad2 (op rd rs1 rs2 imm : Int) (g0 : decide (op < 1) = false) (g1 : decide (57 ≤ op) = false) (g2 : decide (rd < 0) = true) (w : World) :
    Calls Tryd.prog 13 #[.agg #[.int .i64 op, .int .i64 rd, .int .i64 rs1, .int .i64 rs2, .int .i64 imm]] w fun e w' => e = .returned (.tuple #[.int .i64 0, .bool false]) ∧ Chg [] w w' := by
  obtain ⟨B, hB⟩ : ∃ B, B = w.heap.size := ⟨_, rfl⟩
  obtain ⟨V, hV⟩ : ∃ V, V = w.alloc (.cells #[.int .i64 op, .int .i64 rd, .int .i64 rs1, .int .i64 rs2, .int .i64 imm] 29) := ⟨_, rfl⟩
  have hcV : Chg [] w V := by rw [hV]; exact (Chg.refl _ _).alloc _
  have rb : V.row? B = some #[.int .i64 op, .int .i64 rd, .int .i64 rs1, .int .i64 rs2, .int .i64 imm] := by rw [hV]; exact row_alloc_at _ _ _ _ hB
  obtain ⟨L, hL⟩ : ∃ L, L = V.heap.size := ⟨_, rfl⟩
  have HLI := list_any V
  rw [← hL] at HLI
  have HLI := Lib.hid HLI
  have HCV := Lib.hid hcV
  have HRB := Lib.hid rb
  have HVV := Lib.hid hV
  have HBB := Lib.hid hB
  clear hcV rb hV hB hL
  go_enter Tryd.func13, Tryd.ntmps13
  go_upto_region 1 with (fail)
  rw [← HBB.out, ← HVV.out]
  go_wp2_with fail
  refine HLI.out.mono ?_
  rintro e w1 ⟨rfl, hrow, hc1⟩
  have HC1 := Lib.hid (HCV.out.trans hc1)
  have hrb1 : w1.row? B = some #[.int .i64 op, .int .i64 rd, .int .i64 rs1, .int .i64 rs2, .int .i64 imm] := by rw [hc1.row (row_lt HRB.out) (by simp)]; exact HRB.out
  have c0 : w1.cell? ⟨B, 0, none⟩ = some (.int .i64 op) := by rw [row_cell hrb1]; rfl
  have c1 : w1.cell? ⟨B, 1, none⟩ = some (.int .i64 rd) := by rw [row_cell hrb1]; rfl
  have c2 : w1.cell? ⟨B, 2, none⟩ = some (.int .i64 rs1) := by rw [row_cell hrb1]; rfl
  have c3 : w1.cell? ⟨B, 3, none⟩ = some (.int .i64 rs2) := by rw [row_cell hrb1]; rfl
  clear hrow hc1 hrb1 HLI HRB HCV
  go_wp2
  go_ret2
  exact ⟨rfl, HC1.out⟩
set_option maxRecDepth 100000 in
theorem renc_bad3 (op rd rs1 rs2 imm : Int) (g0 : decide (op < 1) = false) (g1 : decide (57 ≤ op) = false) (g2 : decide (rd < 0) = false) (g3 : decide (31 < rd) = true) (w : World) :
    Calls Tryd.prog 13 #[.agg #[.int .i64 op, .int .i64 rd, .int .i64 rs1, .int .i64 rs2, .int .i64 imm]] w fun e w' => e = .returned (.tuple #[.int .i64 0, .bool false]) ∧ Chg [] w w' := by
  obtain ⟨B, hB⟩ : ∃ B, B = w.heap.size := ⟨_, rfl⟩
  obtain ⟨V, hV⟩ : ∃ V, V = w.alloc (.cells #[.int .i64 op, .int .i64 rd, .int .i64 rs1, .int .i64 rs2, .int .i64 imm] 29) := ⟨_, rfl⟩
  have hcV : Chg [] w V := by rw [hV]; exact (Chg.refl _ _).alloc _
  have rb : V.row? B = some #[.int .i64 op, .int .i64 rd, .int .i64 rs1, .int .i64 rs2, .int .i64 imm] := by rw [hV]; exact row_alloc_at _ _ _ _ hB
  obtain ⟨L, hL⟩ : ∃ L, L = V.heap.size := ⟨_, rfl⟩
  have HLI := list_any V
  rw [← hL] at HLI
  have HLI := Lib.hid HLI
  have HCV := Lib.hid hcV
  have HRB := Lib.hid rb
  have HVV := Lib.hid hV
  have HBB := Lib.hid hB
  clear hcV rb hV hB hL
  go_enter Tryd.func13, Tryd.ntmps13
  go_upto_region 1 with (fail)
  rw [← HBB.out, ← HVV.out]
  go_wp2_with fail
  refine HLI.out.mono ?_
  rintro e w1 ⟨rfl, hrow, hc1⟩
  have HC1 := Lib.hid (HCV.out.trans hc1)
  have hrb1 : w1.row? B = some #[.int .i64 op, .int .i64 rd, .int .i64 rs1, .int .i64 rs2, .int .i64 imm] := by rw [hc1.row (row_lt HRB.out) (by simp)]; exact HRB.out
  have c0 : w1.cell? ⟨B, 0, none⟩ = some (.int .i64 op) := by rw [row_cell hrb1]; rfl
  have c1 : w1.cell? ⟨B, 1, none⟩ = some (.int .i64 rd) := by rw [row_cell hrb1]; rfl
  have c2 : w1.cell? ⟨B, 2, none⟩ = some (.int .i64 rs1) := by rw [row_cell hrb1]; rfl
  have c3 : w1.cell? ⟨B, 3, none⟩ = some (.int .i64 rs2) := by rw [row_cell hrb1]; rfl
  clear hrow hc1 hrb1 HLI HRB HCV
  go_wp2
  go_ret2
  exact ⟨rfl, HC1.out⟩
set_option maxRecDepth 100000 in
theorem renc_bad4 (op rd rs1 rs2 imm : Int) (g0 : decide (op < 1) = false) (g1 : decide (57 ≤ op) = false) (g2 : decide (rd < 0) = false) (g3 : decide (31 < rd) = false) (g4 : decide (rs1 < 0) = true) (w : World) :
    Calls Tryd.prog 13 #[.agg #[.int .i64 op, .int .i64 rd, .int .i64 rs1, .int .i64 rs2, .int .i64 imm]] w fun e w' => e = .returned (.tuple #[.int .i64 0, .bool false]) ∧ Chg [] w w' := by
  obtain ⟨B, hB⟩ : ∃ B, B = w.heap.size := ⟨_, rfl⟩
  obtain ⟨V, hV⟩ : ∃ V, V = w.alloc (.cells #[.int .i64 op, .int .i64 rd, .int .i64 rs1, .int .i64 rs2, .int .i64 imm] 29) := ⟨_, rfl⟩
  have hcV : Chg [] w V := by rw [hV]; exact (Chg.refl _ _).alloc _
  have rb : V.row? B = some #[.int .i64 op, .int .i64 rd, .int .i64 rs1, .int .i64 rs2, .int .i64 imm] := by rw [hV]; exact row_alloc_at _ _ _ _ hB
  obtain ⟨L, hL⟩ : ∃ L, L = V.heap.size := ⟨_, rfl⟩
  have HLI := list_any V
  rw [← hL] at HLI
  have HLI := Lib.hid HLI
  have HCV := Lib.hid hcV
  have HRB := Lib.hid rb
  have HVV := Lib.hid hV
  have HBB := Lib.hid hB
  clear hcV rb hV hB hL
  go_enter Tryd.func13, Tryd.ntmps13
  go_upto_region 1 with (fail)
  rw [← HBB.out, ← HVV.out]
  go_wp2_with fail
  refine HLI.out.mono ?_
  rintro e w1 ⟨rfl, hrow, hc1⟩
  have HC1 := Lib.hid (HCV.out.trans hc1)
  have hrb1 : w1.row? B = some #[.int .i64 op, .int .i64 rd, .int .i64 rs1, .int .i64 rs2, .int .i64 imm] := by rw [hc1.row (row_lt HRB.out) (by simp)]; exact HRB.out
  have c0 : w1.cell? ⟨B, 0, none⟩ = some (.int .i64 op) := by rw [row_cell hrb1]; rfl
  have c1 : w1.cell? ⟨B, 1, none⟩ = some (.int .i64 rd) := by rw [row_cell hrb1]; rfl
  have c2 : w1.cell? ⟨B, 2, none⟩ = some (.int .i64 rs1) := by rw [row_cell hrb1]; rfl
  have c3 : w1.cell? ⟨B, 3, none⟩ = some (.int .i64 rs2) := by rw [row_cell hrb1]; rfl
  clear hrow hc1 hrb1 HLI HRB HCV
  go_wp2
  go_ret2
  exact ⟨rfl, HC1.out⟩
set_option maxRecDepth 100000 in
theorem renc_bad5 (op rd rs1 rs2 imm : Int) (g0 : decide (op < 1) = false) (g1 : decide (57 ≤ op) = false) (g2 : decide (rd < 0) = false) (g3 : decide (31 < rd) = false) (g4 : decide (rs1 < 0) = false) (g5 : decide (31 < rs1) = true) (w : World) :
    Calls Tryd.prog 13 #[.agg #[.int .i64 op, .int .i64 rd, .int .i64 rs1, .int .i64 rs2, .int .i64 imm]] w fun e w' => e = .returned (.tuple #[.int .i64 0, .bool false]) ∧ Chg [] w w' := by
  obtain ⟨B, hB⟩ : ∃ B, B = w.heap.size := ⟨_, rfl⟩
  obtain ⟨V, hV⟩ : ∃ V, V = w.alloc (.cells #[.int .i64 op, .int .i64 rd, .int .i64 rs1, .int .i64 rs2, .int .i64 imm] 29) := ⟨_, rfl⟩
  have hcV : Chg [] w V := by rw [hV]; exact (Chg.refl _ _).alloc _
  have rb : V.row? B = some #[.int .i64 op, .int .i64 rd, .int .i64 rs1, .int .i64 rs2, .int .i64 imm] := by rw [hV]; exact row_alloc_at _ _ _ _ hB
  obtain ⟨L, hL⟩ : ∃ L, L = V.heap.size := ⟨_, rfl⟩
  have HLI := list_any V
  rw [← hL] at HLI
  have HLI := Lib.hid HLI
  have HCV := Lib.hid hcV
  have HRB := Lib.hid rb
  have HVV := Lib.hid hV
  have HBB := Lib.hid hB
  clear hcV rb hV hB hL
  go_enter Tryd.func13, Tryd.ntmps13
  go_upto_region 1 with (fail)
  rw [← HBB.out, ← HVV.out]
  go_wp2_with fail
  refine HLI.out.mono ?_
  rintro e w1 ⟨rfl, hrow, hc1⟩
  have HC1 := Lib.hid (HCV.out.trans hc1)
  have hrb1 : w1.row? B = some #[.int .i64 op, .int .i64 rd, .int .i64 rs1, .int .i64 rs2, .int .i64 imm] := by rw [hc1.row (row_lt HRB.out) (by simp)]; exact HRB.out
  have c0 : w1.cell? ⟨B, 0, none⟩ = some (.int .i64 op) := by rw [row_cell hrb1]; rfl
  have c1 : w1.cell? ⟨B, 1, none⟩ = some (.int .i64 rd) := by rw [row_cell hrb1]; rfl
  have c2 : w1.cell? ⟨B, 2, none⟩ = some (.int .i64 rs1) := by rw [row_cell hrb1]; rfl
  have c3 : w1.cell? ⟨B, 3, none⟩ = some (.int .i64 rs2) := by rw [row_cell hrb1]; rfl
  clear hrow hc1 hrb1 HLI HRB HCV
  go_wp2
  go_ret2
  exact ⟨rfl, HC1.out⟩
set_option maxRecDepth 100000 in
theorem renc_bad6 (op rd rs1 rs2 imm : Int) (g0 : decide (op < 1) = false) (g1 : decide (57 ≤ op) = false) (g2 : decide (rd < 0) = false) (g3 : decide (31 < rd) = false) (g4 : decide (rs1 < 0) = false) (g5 : decide (31 < rs1) = false) (g6 : decide (rs2 < 0) = true) (w : World) :
    Calls Tryd.prog 13 #[.agg #[.int .i64 op, .int .i64 rd, .int .i64 rs1, .int .i64 rs2, .int .i64 imm]] w fun e w' => e = .returned (.tuple #[.int .i64 0, .bool false]) ∧ Chg [] w w' := by
  obtain ⟨B, hB⟩ : ∃ B, B = w.heap.size := ⟨_, rfl⟩
  obtain ⟨V, hV⟩ : ∃ V, V = w.alloc (.cells #[.int .i64 op, .int .i64 rd, .int .i64 rs1, .int .i64 rs2, .int .i64 imm] 29) := ⟨_, rfl⟩
  have hcV : Chg [] w V := by rw [hV]; exact (Chg.refl _ _).alloc _
  have rb : V.row? B = some #[.int .i64 op, .int .i64 rd, .int .i64 rs1, .int .i64 rs2, .int .i64 imm] := by rw [hV]; exact row_alloc_at _ _ _ _ hB
  obtain ⟨L, hL⟩ : ∃ L, L = V.heap.size := ⟨_, rfl⟩
  have HLI := list_any V
  rw [← hL] at HLI
  have HLI := Lib.hid HLI
  have HCV := Lib.hid hcV
  have HRB := Lib.hid rb
  have HVV := Lib.hid hV
  have HBB := Lib.hid hB
  clear hcV rb hV hB hL
  go_enter Tryd.func13, Tryd.ntmps13
  go_upto_region 1 with (fail)
  rw [← HBB.out, ← HVV.out]
  go_wp2_with fail
  refine HLI.out.mono ?_
  rintro e w1 ⟨rfl, hrow, hc1⟩
  have HC1 := Lib.hid (HCV.out.trans hc1)
  have hrb1 : w1.row? B = some #[.int .i64 op, .int .i64 rd, .int .i64 rs1, .int .i64 rs2, .int .i64 imm] := by rw [hc1.row (row_lt HRB.out) (by simp)]; exact HRB.out
  have c0 : w1.cell? ⟨B, 0, none⟩ = some (.int .i64 op) := by rw [row_cell hrb1]; rfl
  have c1 : w1.cell? ⟨B, 1, none⟩ = some (.int .i64 rd) := by rw [row_cell hrb1]; rfl
  have c2 : w1.cell? ⟨B, 2, none⟩ = some (.int .i64 rs1) := by rw [row_cell hrb1]; rfl
  have c3 : w1.cell? ⟨B, 3, none⟩ = some (.int .i64 rs2) := by rw [row_cell hrb1]; rfl
  clear hrow hc1 hrb1 HLI HRB HCV
  go_wp2
  go_ret2
  exact ⟨rfl, HC1.out⟩
set_option maxRecDepth 100000 in
theorem renc_bad7 (op rd rs1 rs2 imm : Int) (g0 : decide (op < 1) = false) (g1 : decide (57 ≤ op) = false) (g2 : decide (rd < 0) = false) (g3 : decide (31 < rd) = false) (g4 : decide (rs1 < 0) = false) (g5 : decide (31 < rs1) = false) (g6 : decide (rs2 < 0) = false) (g7 : decide (31 < rs2) = true) (w : World) :
    Calls Tryd.prog 13 #[.agg #[.int .i64 op, .int .i64 rd, .int .i64 rs1, .int .i64 rs2, .int .i64 imm]] w fun e w' => e = .returned (.tuple #[.int .i64 0, .bool false]) ∧ Chg [] w w' := by
  obtain ⟨B, hB⟩ : ∃ B, B = w.heap.size := ⟨_, rfl⟩
  obtain ⟨V, hV⟩ : ∃ V, V = w.alloc (.cells #[.int .i64 op, .int .i64 rd, .int .i64 rs1, .int .i64 rs2, .int .i64 imm] 29) := ⟨_, rfl⟩
  have hcV : Chg [] w V := by rw [hV]; exact (Chg.refl _ _).alloc _
  have rb : V.row? B = some #[.int .i64 op, .int .i64 rd, .int .i64 rs1, .int .i64 rs2, .int .i64 imm] := by rw [hV]; exact row_alloc_at _ _ _ _ hB
  obtain ⟨L, hL⟩ : ∃ L, L = V.heap.size := ⟨_, rfl⟩
  have HLI := list_any V
  rw [← hL] at HLI
  have HLI := Lib.hid HLI
  have HCV := Lib.hid hcV
  have HRB := Lib.hid rb
  have HVV := Lib.hid hV
  have HBB := Lib.hid hB
  clear hcV rb hV hB hL
  go_enter Tryd.func13, Tryd.ntmps13
  go_upto_region 1 with (fail)
  rw [← HBB.out, ← HVV.out]
  go_wp2_with fail
  refine HLI.out.mono ?_
  rintro e w1 ⟨rfl, hrow, hc1⟩
  have HC1 := Lib.hid (HCV.out.trans hc1)
  have hrb1 : w1.row? B = some #[.int .i64 op, .int .i64 rd, .int .i64 rs1, .int .i64 rs2, .int .i64 imm] := by rw [hc1.row (row_lt HRB.out) (by simp)]; exact HRB.out
  have c0 : w1.cell? ⟨B, 0, none⟩ = some (.int .i64 op) := by rw [row_cell hrb1]; rfl
  have c1 : w1.cell? ⟨B, 1, none⟩ = some (.int .i64 rd) := by rw [row_cell hrb1]; rfl
  have c2 : w1.cell? ⟨B, 2, none⟩ = some (.int .i64 rs1) := by rw [row_cell hrb1]; rfl
  have c3 : w1.cell? ⟨B, 3, none⟩ = some (.int .i64 rs2) := by rw [row_cell hrb1]; rfl
  clear hrow hc1 hrb1 HLI HRB HCV
  go_wp2
  go_ret2
  exact ⟨rfl, HC1.out⟩
theorem renc_bad (op rd rs1 rs2 imm : Int) (h : ¬ (1 ≤ op ∧ op < 57 ∧ 0 ≤ rd ∧ rd < 32 ∧ 0 ≤ rs1 ∧ rs1 < 32 ∧ 0 ≤ rs2 ∧ rs2 < 32)) (w : World) :
    Calls Tryd.prog 13 #[.agg #[.int .i64 op, .int .i64 rd, .int .i64 rs1, .int .i64 rs2, .int .i64 imm]] w fun e w' => e = .returned (.tuple #[.int .i64 0, .bool false]) ∧ Chg [] w w' := by
  by_cases h0 : op < 1
  · exact renc_bad0 op rd rs1 rs2 imm  (decide_eq_true h0) w
  by_cases h1 : 57 ≤ op
  · exact renc_bad1 op rd rs1 rs2 imm (decide_eq_false h0) (decide_eq_true h1) w
  by_cases h2 : rd < 0
  · exact renc_bad2 op rd rs1 rs2 imm (decide_eq_false h0) (decide_eq_false h1) (decide_eq_true h2) w
  by_cases h3 : 31 < rd
  · exact renc_bad3 op rd rs1 rs2 imm (decide_eq_false h0) (decide_eq_false h1) (decide_eq_false h2) (decide_eq_true h3) w
  by_cases h4 : rs1 < 0
  · exact renc_bad4 op rd rs1 rs2 imm (decide_eq_false h0) (decide_eq_false h1) (decide_eq_false h2) (decide_eq_false h3) (decide_eq_true h4) w
  by_cases h5 : 31 < rs1
  · exact renc_bad5 op rd rs1 rs2 imm (decide_eq_false h0) (decide_eq_false h1) (decide_eq_false h2) (decide_eq_false h3) (decide_eq_false h4) (decide_eq_true h5) w
  by_cases h6 : rs2 < 0
  · exact renc_bad6 op rd rs1 rs2 imm (decide_eq_false h0) (decide_eq_false h1) (decide_eq_false h2) (decide_eq_false h3) (decide_eq_false h4) (decide_eq_false h5) (decide_eq_true h6) w
  by_cases h7 : 31 < rs2
  · exact renc_bad7 op rd rs1 rs2 imm (decide_eq_false h0) (decide_eq_false h1) (decide_eq_false h2) (decide_eq_false h3) (decide_eq_false h4) (decide_eq_false h5) (decide_eq_false h6) (decide_eq_true h7) w
  exact absurd (by omega) h
theorem form_neg (op : Int) (h : ¬ (1 ≤ op ∧ op < 57)) : formN op = -1 := by
  unfold formN
  repeat' split
  all_goals omega
theorem form_pos (op : Int) (h : 1 ≤ op ∧ op < 57) : 0 ≤ formN op := by
  unfold formN
  repeat' split
  all_goals omega
theorem encP_lt (k rd rs1 rs2 imm : Nat) (h1 : 1 ≤ k) (h2 : k < 57) (hrd : rd < 32) (hrs1 : rs1 < 32) (hrs2 : rs2 < 32) (hi : imm < 4294967296) : encP (frmL k) (wrdC k) rd rs1 rs2 imm < 4294967296 := by
  have hc := (letK k h2 h1).2.1
  rcases frm_letter k h2 h1 with hl | hl | hl | hl | hl | hl | hl | hl | hl | hl | hl <;> rw [hl]
  · exact or_lt (or_lt hc (by omega)) hi
  · exact setJ_lt _ _
  · exact setI_lt _ _
  · exact setB_lt _ _
  · exact setS_lt _ _
  · exact or_lt (or_lt (or_lt hc (by omega)) (by omega)) (by omega)
  · exact or_lt (or_lt (or_lt hc (by omega)) (by omega)) (by omega)
  · exact hc
  · exact or_lt (or_lt (or_lt hc (by omega)) (by omega)) (by omega)
  · exact or_lt (or_lt (or_lt hc (by omega)) (by omega)) (by omega)
  · exact hc
/-- the two answers: the same truth, the same word -/
theorem both_enc (op rd rs1 rs2 : Int) (imm : Nat) (hi : imm < 4294967296) : ∃ (p : Bool) (u v : Int), (p = true → u = v) ∧ 0 ≤ u ∧ u < 4294967296 ∧
    (∀ w, LaidOk w → Calls Tryd.prog 12 #[.agg #[.int .i64 op, .int .i64 rd, .int .i64 rs1, .int .i64 rs2, .int .u32 (imm : Int)]] w fun e w' => e = .returned (.tuple #[.int .u32 u, .bool p]) ∧ Chg [] w w') ∧
    (∀ w, Calls Tryd.prog 13 #[.agg #[.int .i64 op, .int .i64 rd, .int .i64 rs1, .int .i64 rs2, .int .i64 (imm : Int)]] w fun e w' => e = .returned (.tuple #[.int .i64 v, .bool p]) ∧ Chg [] w w') := by
  by_cases h : 1 ≤ op ∧ op < 57 ∧ 0 ≤ rd ∧ rd < 32 ∧ 0 ≤ rs1 ∧ rs1 < 32 ∧ 0 ≤ rs2 ∧ rs2 < 32
  · obtain ⟨a1, a2, a3, a4, a5, a6, a7, a8⟩ := h
    obtain ⟨k, rfl⟩ : ∃ k : Nat, op = k := ⟨op.toNat, by omega⟩
    obtain ⟨x, rfl⟩ : ∃ k : Nat, rd = k := ⟨rd.toNat, by omega⟩
    obtain ⟨y, rfl⟩ : ∃ k : Nat, rs1 = k := ⟨rs1.toNat, by omega⟩
    obtain ⟨z, rfl⟩ : ∃ k : Nat, rs2 = k := ⟨rs2.toNat, by omega⟩
    have h1 : 1 ≤ k := by omega
    have h2 : k < 57 := by omega
    have l1 : x < 32 := by omega
    have l2 : y < 32 := by omega
    have l3 : z < 32 := by omega
    obtain ⟨w32, _, hs⟩ := ok_iff k x y z imm _ h1 h2 l1 l2 l3 hi rfl
    by_cases hp : okP (frmL k) x y z imm = true
    · have e := hs hp
      refine ⟨_, _, _, ?_, ?_, ?_, fun w hL => enc_any k x y z imm h1 h2 l1 l2 l3 hi w hL, fun w => renc_any k x y z imm h1 h2 l1 l2 l3 hi w⟩
      · intro _; rw [e]
      · omega
      · rw [e]; omega
    · have hp' : okP (frmL k) x y z imm = false := by simpa using hp
      refine ⟨false, (encP (frmL k) (wrdC k) x y z imm : Nat), (encR (frmL k) (wrdC k) x y z imm : Nat), (fun h => by cases h), by omega, ?_, ?_, ?_⟩
      · have := encP_lt k x y z imm h1 h2 l1 l2 l3 hi; omega
      · intro w hL; have := enc_any k x y z imm h1 h2 l1 l2 l3 hi w hL; rw [hp'] at this; exact this
      · intro w; have := renc_any k x y z imm h1 h2 l1 l2 l3 hi w; rw [hp'] at this; exact this
  · refine ⟨false, 0, 0, fun _ => rfl, by omega, by omega, ?_, fun w => renc_bad op rd rs1 rs2 imm h w⟩
    intro w _
    by_cases ho : 1 ≤ op ∧ op < 57
    · refine enc_bad2 op rd rs1 rs2 imm (form_pos op ho) ?_ w
      rw [Bool.eq_false_iff]
      intro hh
      simp [regB] at hh
      omega
    · exact enc_bad1 op rd rs1 rs2 imm (form_neg op ho) w
set_option maxRecDepth 100000 in
set_option maxHeartbeats 800000 in
theorem encodes_walk (op rd rs1 rs2 : Int) (imm : Nat) (hi : imm < 4294967296) (w : World) (hL : LaidOk w) : Calls Tryd.prog 5 #[.agg #[.int .i64 op, .int .i64 rd, .int .i64 rs1, .int .i64 rs2, .int .u32 (imm : Int)]] w fun e w' => e = .returned (.bool true) ∧ Chg [] w w' := by
  obtain ⟨p, u, v, huv, hu0, hu1, hE, hR⟩ := both_enc op rd rs1 rs2 imm hi
  obtain ⟨B, hB⟩ : ∃ B, B = w.heap.size := ⟨_, rfl⟩
  obtain ⟨V, hV⟩ : ∃ V, V = w.alloc (.cells #[.int .i64 op, .int .i64 rd, .int .i64 rs1, .int .i64 rs2, .int .u32 (imm : Int)] 26) := ⟨_, rfl⟩
  have hcV : Chg [] w V := by rw [hV]; exact (Chg.refl _ _).alloc _
  have rb : V.row? B = some #[.int .i64 op, .int .i64 rd, .int .i64 rs1, .int .i64 rs2, .int .u32 (imm : Int)] := by rw [hV]; exact row_alloc_at _ _ _ _ hB
  have HF := Lib.hid (fit_ok V (hL.keep hcV))
  have H := Lib.hid hL
  have HE := Lib.hid hE
  have HR := Lib.hid hR
  have HCV := Lib.hid hcV
  have HRB := Lib.hid rb
  have HV := Lib.hid hV
  have HB := Lib.hid hB
  have cell : Hid (∀ (W : World), Chg [] V W → ∀ j u, #[Value.int .i64 op, Value.int .i64 rd, Value.int .i64 rs1, Value.int .i64 rs2, Value.int .u32 (imm : Int)][j]? = some u → W.cell? ⟨B, j, none⟩ = some u) := Lib.hid fun W hW j u hu => by
    rw [row_cell (by rw [hW.row (row_lt rb) (by simp)]; exact rb)]; exact hu
  have wi : wrap64 (imm : Int) = imm := IntWalk.wrap64_in _ ⟨by omega, by omega⟩
  have wu : wrap64 u = u := IntWalk.wrap64_in _ ⟨by omega, by omega⟩
  have HUV := Lib.hid huv
  clear hL hE hR hcV rb hV hB huv hu0 hu1 hi
  go_enter Tryd.func5, Tryd.ntmps5
  go_upto_region 1 with (fail)
  rw [← HB.out, ← HV.out]
  go_wp2_with fail
  refine HF.out.mono ?_
  rintro e w1 ⟨rfl, hc1⟩
  have HC1 := Lib.hid hc1
  have v0 := cell.out w1 hc1 0 _ rfl
  have v1 := cell.out w1 hc1 1 _ rfl
  have v2 := cell.out w1 hc1 2 _ rfl
  have v3 := cell.out w1 hc1 3 _ rfl
  have v4 := cell.out w1 hc1 4 _ rfl
  clear hc1
  go_wp2_with fail
  refine (HE.out w1 (H.out.keep (HCV.out.trans HC1.out))).mono ?_
  rintro e w2 ⟨rfl, hc2⟩
  have HC2 := Lib.hid (HC1.out.trans hc2)
  clear v0 v1 v2 v3 v4
  have v0 := cell.out w2 HC2.out 0 _ rfl
  have v1 := cell.out w2 HC2.out 1 _ rfl
  have v2 := cell.out w2 HC2.out 2 _ rfl
  have v3 := cell.out w2 HC2.out 3 _ rfl
  have v4 := cell.out w2 HC2.out 4 _ rfl
  clear hc2
  go_wp2_with fail
  refine (HR.out w2).mono ?_
  rintro e w3 ⟨rfl, hc3⟩
  have HC3 := Lib.hid (HCV.out.trans (HC2.out.trans hc3))
  clear v0 v1 v2 v3 v4 hc3
  cases p with
  | false =>
    go_wp2
    go_ret
    exact ⟨rfl, HC3.out⟩
  | true =>
    have e := HUV.out rfl
    subst e
    go_wp2
    go_ret
    exact ⟨rfl, HC3.out⟩
end Go.Proofs.L
