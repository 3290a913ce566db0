/- Proved here: lemmas and contracts (System) for the laws of this seat, for all values of the stated types; no further condition. -/
import Derived.Test.YtdccfeideihmiaaDoorParts
open Go Go.RowKit Go.Lib
namespace Go.Proofs.L
set_option maxHeartbeats 1600000 in
theorem sys47 (x rd rs1 rs2 f : Nat) (hx : x < 4294967296) (h : x = 115) (w : World) : Calls Tryd.prog 38 #[.int .u32 (x : Int), .agg (insA 0 rd rs1 rs2 0), .int .i64 (f : Int)] w fun e w' => e = .returned (.agg (insA 47 0 0 0 0)) ∧ Chg [] w w' := by
  obtain ⟨RR, hRR⟩ : ∃ RR, RR = insA 47 0 0 0 0 := ⟨_, rfl⟩
  rw [← hRR]
  have HRR := Lib.hid hRR
  clear hRR
  subst h
  have HX := Lib.hid hx
  clear hx
  obtain ⟨V, hV⟩ : ∃ V, V = ((w.alloc (.cells #[.int .i64 0, .int .i64 (rd : Int), .int .i64 (rs1 : Int), .int .i64 (rs2 : Int), .int .u32 0] 26)).alloc (.cells #[.int .i64 0, .int .i64 0, .int .i64 0, .int .i64 0, .int .u32 0] 26)) := ⟨_, rfl⟩
  obtain ⟨b5, h5⟩ : ∃ b, b = w.heap.size := ⟨_, rfl⟩
  have rx : V.row? b5 = some (insA 0 rd rs1 rs2 0) := by
    rw [hV, row_alloc_past _ _ _ (by simp; omega)]; exact row_alloc_at _ _ _ _ h5
  have r8 : V.row? (b5 + 1) = some (insA 0 0 0 0 0) := by
    rw [hV]; exact row_alloc_at _ _ _ _ (by simp; omega)
  have hVC : Chg [] w V := by rw [hV]; exact (((Chg.refl _ _).alloc _).alloc _)
  have HVC := Lib.hid hVC
  have H5 := Lib.hid h5
  clear hVC
  rw [show insA 0 rd rs1 rs2 0 = #[.int .i64 0, .int .i64 (rd : Int), .int .i64 (rs1 : Int), .int .i64 (rs2 : Int), .int .u32 0] from rfl]
  go_enter Tryd.func38, Tryd.ntmps38
  clear hV h5
  go_wp2_with (refine wpList_store_new a26 _ _ rfl rfl rfl rfl rfl rfl rfl rfl ?_)
  refine bodyPost_ret (ret_cell1 rfl a26 rfl (row_alloc_at _ _ _ _ (by simp)) rfl) rfl ?_
  exact ⟨by rw [HRR.out]; rfl, (((Chg.refl _ _).alloc _).alloc _)⟩
set_option maxHeartbeats 1600000 in
theorem sys48 (x rd rs1 rs2 f : Nat) (hx : x < 4294967296) (h : x = 1048691) (w : World) : Calls Tryd.prog 38 #[.int .u32 (x : Int), .agg (insA 0 rd rs1 rs2 0), .int .i64 (f : Int)] w fun e w' => e = .returned (.agg (insA 48 0 0 0 0)) ∧ Chg [] w w' := by
  obtain ⟨RR, hRR⟩ : ∃ RR, RR = insA 48 0 0 0 0 := ⟨_, rfl⟩
  rw [← hRR]
  have HRR := Lib.hid hRR
  clear hRR
  subst h
  have HX := Lib.hid hx
  clear hx
  obtain ⟨V, hV⟩ : ∃ V, V = ((w.alloc (.cells #[.int .i64 0, .int .i64 (rd : Int), .int .i64 (rs1 : Int), .int .i64 (rs2 : Int), .int .u32 0] 26)).alloc (.cells #[.int .i64 0, .int .i64 0, .int .i64 0, .int .i64 0, .int .u32 0] 26)) := ⟨_, rfl⟩
  obtain ⟨b5, h5⟩ : ∃ b, b = w.heap.size := ⟨_, rfl⟩
  have rx : V.row? b5 = some (insA 0 rd rs1 rs2 0) := by
    rw [hV, row_alloc_past _ _ _ (by simp; omega)]; exact row_alloc_at _ _ _ _ h5
  have r8 : V.row? (b5 + 1) = some (insA 0 0 0 0 0) := by
    rw [hV]; exact row_alloc_at _ _ _ _ (by simp; omega)
  have hVC : Chg [] w V := by rw [hV]; exact (((Chg.refl _ _).alloc _).alloc _)
  have HVC := Lib.hid hVC
  have H5 := Lib.hid h5
  clear hVC
  rw [show insA 0 rd rs1 rs2 0 = #[.int .i64 0, .int .i64 (rd : Int), .int .i64 (rs1 : Int), .int .i64 (rs2 : Int), .int .u32 0] from rfl]
  go_enter Tryd.func38, Tryd.ntmps38
  clear hV h5
  go_wp2_with (refine wpList_store_new a26 _ _ rfl rfl rfl rfl rfl rfl rfl rfl ?_)
  refine bodyPost_ret (ret_cell1 rfl a26 rfl (row_alloc_at _ _ _ _ (by simp)) rfl) rfl ?_
  exact ⟨by rw [HRR.out]; rfl, (((Chg.refl _ _).alloc _).alloc _)⟩
set_option maxHeartbeats 1600000 in
theorem sys49 (x rd rs1 rs2 f : Nat) (hx : x < 4294967296) (h : x = 807403635) (w : World) : Calls Tryd.prog 38 #[.int .u32 (x : Int), .agg (insA 0 rd rs1 rs2 0), .int .i64 (f : Int)] w fun e w' => e = .returned (.agg (insA 49 0 0 0 0)) ∧ Chg [] w w' := by
  obtain ⟨RR, hRR⟩ : ∃ RR, RR = insA 49 0 0 0 0 := ⟨_, rfl⟩
  rw [← hRR]
  have HRR := Lib.hid hRR
  clear hRR
  subst h
  have HX := Lib.hid hx
  clear hx
  obtain ⟨V, hV⟩ : ∃ V, V = ((w.alloc (.cells #[.int .i64 0, .int .i64 (rd : Int), .int .i64 (rs1 : Int), .int .i64 (rs2 : Int), .int .u32 0] 26)).alloc (.cells #[.int .i64 0, .int .i64 0, .int .i64 0, .int .i64 0, .int .u32 0] 26)) := ⟨_, rfl⟩
  obtain ⟨b5, h5⟩ : ∃ b, b = w.heap.size := ⟨_, rfl⟩
  have rx : V.row? b5 = some (insA 0 rd rs1 rs2 0) := by
    rw [hV, row_alloc_past _ _ _ (by simp; omega)]; exact row_alloc_at _ _ _ _ h5
  have r8 : V.row? (b5 + 1) = some (insA 0 0 0 0 0) := by
    rw [hV]; exact row_alloc_at _ _ _ _ (by simp; omega)
  have hVC : Chg [] w V := by rw [hV]; exact (((Chg.refl _ _).alloc _).alloc _)
  have HVC := Lib.hid hVC
  have H5 := Lib.hid h5
  clear hVC
  rw [show insA 0 rd rs1 rs2 0 = #[.int .i64 0, .int .i64 (rd : Int), .int .i64 (rs1 : Int), .int .i64 (rs2 : Int), .int .u32 0] from rfl]
  go_enter Tryd.func38, Tryd.ntmps38
  clear hV h5
  go_wp2_with (refine wpList_store_new a26 _ _ rfl rfl rfl rfl rfl rfl rfl rfl ?_)
  refine bodyPost_ret (ret_cell1 rfl a26 rfl (row_alloc_at _ _ _ _ (by simp)) rfl) rfl ?_
  exact ⟨by rw [HRR.out]; rfl, (((Chg.refl _ _).alloc _).alloc _)⟩
set_option maxHeartbeats 1600000 in
theorem sys50 (x rd rs1 rs2 f : Nat) (hx : x < 4294967296) (h : x = 273678451) (w : World) : Calls Tryd.prog 38 #[.int .u32 (x : Int), .agg (insA 0 rd rs1 rs2 0), .int .i64 (f : Int)] w fun e w' => e = .returned (.agg (insA 50 0 0 0 0)) ∧ Chg [] w w' := by
  obtain ⟨RR, hRR⟩ : ∃ RR, RR = insA 50 0 0 0 0 := ⟨_, rfl⟩
  rw [← hRR]
  have HRR := Lib.hid hRR
  clear hRR
  subst h
  have HX := Lib.hid hx
  clear hx
  obtain ⟨V, hV⟩ : ∃ V, V = ((w.alloc (.cells #[.int .i64 0, .int .i64 (rd : Int), .int .i64 (rs1 : Int), .int .i64 (rs2 : Int), .int .u32 0] 26)).alloc (.cells #[.int .i64 0, .int .i64 0, .int .i64 0, .int .i64 0, .int .u32 0] 26)) := ⟨_, rfl⟩
  obtain ⟨b5, h5⟩ : ∃ b, b = w.heap.size := ⟨_, rfl⟩
  have rx : V.row? b5 = some (insA 0 rd rs1 rs2 0) := by
    rw [hV, row_alloc_past _ _ _ (by simp; omega)]; exact row_alloc_at _ _ _ _ h5
  have r8 : V.row? (b5 + 1) = some (insA 0 0 0 0 0) := by
    rw [hV]; exact row_alloc_at _ _ _ _ (by simp; omega)
  have hVC : Chg [] w V := by rw [hV]; exact (((Chg.refl _ _).alloc _).alloc _)
  have HVC := Lib.hid hVC
  have H5 := Lib.hid h5
  clear hVC
  rw [show insA 0 rd rs1 rs2 0 = #[.int .i64 0, .int .i64 (rd : Int), .int .i64 (rs1 : Int), .int .i64 (rs2 : Int), .int .u32 0] from rfl]
  go_enter Tryd.func38, Tryd.ntmps38
  clear hV h5
  go_wp2_with (refine wpList_store_new a26 _ _ rfl rfl rfl rfl rfl rfl rfl rfl ?_)
  refine bodyPost_ret (ret_cell1 rfl a26 rfl (row_alloc_at _ _ _ _ (by simp)) rfl) rfl ?_
  exact ⟨by rw [HRR.out]; rfl, (((Chg.refl _ _).alloc _).alloc _)⟩
set_option maxHeartbeats 1600000 in
theorem sysElse (x rd rs1 rs2 f : Nat) (hx : x < 4294967296) (h1 : x ≠ 115) (h2 : x ≠ 1048691) (h3 : x ≠ 807403635) (h4 : x ≠ 273678451) (w : World) : Calls Tryd.prog 38 #[.int .u32 (x : Int), .agg (insA 0 rd rs1 rs2 0), .int .i64 (f : Int)] w fun e w' => e = .returned (.agg (if ([0, 51, 52, 53, 0, 54, 55, 56] : List Nat).getD f 0 = 0 then insA 0 0 0 0 0 else insA (([0, 51, 52, 53, 0, 54, 55, 56] : List Nat).getD f 0) rd rs1 0 (x / 1048576))) ∧ Chg [] w w' := by
  obtain ⟨RR, hRR⟩ : ∃ RR, RR = if ([0, 51, 52, 53, 0, 54, 55, 56] : List Nat).getD f 0 = 0 then insA 0 0 0 0 0 else insA (([0, 51, 52, 53, 0, 54, 55, 56] : List Nat).getD f 0) rd rs1 0 (x / 1048576) := ⟨_, rfl⟩
  rw [← hRR]
  have HRR := Lib.hid hRR
  clear hRR
  have n115 : ((x : Int) = 115) = False := by simp; omega
  have m115 : ((x : Int) == 115) = false := by rw [beq_eq_false_iff_ne]; omega
  have n1048691 : ((x : Int) = 1048691) = False := by simp; omega
  have m1048691 : ((x : Int) == 1048691) = false := by rw [beq_eq_false_iff_ne]; omega
  have n807403635 : ((x : Int) = 807403635) = False := by simp; omega
  have m807403635 : ((x : Int) == 807403635) = false := by rw [beq_eq_false_iff_ne]; omega
  have n273678451 : ((x : Int) = 273678451) = False := by simp; omega
  have m273678451 : ((x : Int) == 273678451) = false := by rw [beq_eq_false_iff_ne]; omega
  clear h1 h2 h3 h4
  have eq : (x : Int) / 1048576 = ((x / 1048576 : Nat) : Int) := by omega
  obtain ⟨q, hq⟩ : ∃ q, q = x / 1048576 := ⟨_, rfl⟩
  rw [← hq] at eq
  have HQ := Lib.hid hq
  clear hq
  have HX := Lib.hid hx
  clear hx
  obtain ⟨V, hV⟩ : ∃ V, V = ((w.alloc (.cells #[.int .i64 0, .int .i64 (rd : Int), .int .i64 (rs1 : Int), .int .i64 (rs2 : Int), .int .u32 0] 26)).alloc (.cells #[.int .i64 0, .int .i64 0, .int .i64 0, .int .i64 0, .int .u32 0] 26)) := ⟨_, rfl⟩
  obtain ⟨b5, h5⟩ : ∃ b, b = w.heap.size := ⟨_, rfl⟩
  have rx : V.row? b5 = some (insA 0 rd rs1 rs2 0) := by
    rw [hV, row_alloc_past _ _ _ (by simp; omega)]; exact row_alloc_at _ _ _ _ h5
  have r8 : V.row? (b5 + 1) = some (insA 0 0 0 0 0) := by
    rw [hV]; exact row_alloc_at _ _ _ _ (by simp; omega)
  have hVC : Chg [] w V := by rw [hV]; exact (((Chg.refl _ _).alloc _).alloc _)
  have HVC := Lib.hid hVC
  have H5 := Lib.hid h5
  clear hVC
  rw [show insA 0 rd rs1 rs2 0 = #[.int .i64 0, .int .i64 (rd : Int), .int .i64 (rs1 : Int), .int .i64 (rs2 : Int), .int .u32 0] from rfl]
  go_enter Tryd.func38, Tryd.ntmps38
  have s1 : V.cell? ⟨b5, 1, none⟩ = some (.int .i64 (rd : Int)) := by rw [row_cell rx]; rfl
  have s2 : V.cell? ⟨b5, 2, none⟩ = some (.int .i64 (rs1 : Int)) := by rw [row_cell rx]; rfl
  go_wp2_with fail
  rw [← h5, ← hV]
  clear hV h5
  refine wp_region_C (fun w' => w'.cell? ⟨b5, 1, none⟩ = some (.int .i64 (rd : Int)) ∧ w'.cell? ⟨b5, 2, none⟩ = some (.int .i64 (rs1 : Int)) ∧ w'.row? (b5 + 1) = some (insA 0 0 0 0 0)) [(0, 0), (3, 0), (4, 1), (5, 0), (6, 1), (7, 0), (8, 0), (9, 0), (1, 2), (2, 2), (10, 2), (11, 3)] rfl (by kernel_rfl) ?hSB ?hTB
  case hSB => exact ⟨s1, s2, r8⟩
  refine wpT_pureD (v := ?_) (some 20) rfl rfl (by rfl) (fun w' => ?_) ?_
  rotate_left
  · (go_simp; try with_reducible rfl)
  try simp only [Act.put, List.setIfInBounds_toArray, List.set_cons_zero, List.set_cons_succ]
  refine wpT_pureD (v := ?_) (some 23) rfl rfl (by rfl) (fun w' => ?_) ?_
  rotate_left
  · (go_simp; try with_reducible rfl)
  try simp only [Act.put, List.setIfInBounds_toArray, List.set_cons_zero, List.set_cons_succ]
  refine wpT_readD (v := ?_) (some 24) rfl rfl (by rfl) (fun w' hw => ?_) ?_
  rotate_left
  · (obtain ⟨q0, q1, q2⟩ := hw; go_simp; try with_reducible rfl)
  try simp only [Act.put, List.setIfInBounds_toArray, List.set_cons_zero, List.set_cons_succ]
  refine wpT_pureD (v := ?_) (some 25) rfl rfl (by rfl) (fun w' => ?_) ?_
  rotate_left
  · (go_simp; try with_reducible rfl)
  try simp only [Act.put, List.setIfInBounds_toArray, List.set_cons_zero, List.set_cons_succ]
  refine wpT_readD (v := ?_) (some 26) rfl rfl (by rfl) (fun w' hw => ?_) ?_
  rotate_left
  · (obtain ⟨q0, q1, q2⟩ := hw; go_simp; try with_reducible rfl)
  try simp only [Act.put, List.setIfInBounds_toArray, List.set_cons_zero, List.set_cons_succ]
  refine wpT_pureD (v := ?_) (some 27) rfl rfl (by rfl) (fun w' => ?_) ?_
  rotate_left
  · (go_simp; try with_reducible rfl)
  try simp only [Act.put, List.setIfInBounds_toArray, List.set_cons_zero, List.set_cons_succ]
  refine wpT_pureD (v := ?_) (some 28) rfl rfl (by rfl) (fun w' => ?_) ?_
  rotate_left
  · (go_simp; try with_reducible rfl)
  try simp only [Act.put, List.setIfInBounds_toArray, List.set_cons_zero, List.set_cons_succ]
  refine wpT_pureD (v := ?_) (some 29) rfl rfl (by rfl) (fun w' => ?_) ?_
  rotate_left
  · (go_simp; try with_reducible rfl)
  try simp only [Act.put, List.setIfInBounds_toArray, List.set_cons_zero, List.set_cons_succ]
  refine wpT_eff rfl (by rfl) (fun K hK => ?_)
  obtain ⟨V2, hV2⟩ : ∃ V2, V2 = (V.alloc (.cells #[.int .i64 0, .int .i64 51, .int .i64 52, .int .i64 53, .int .i64 0, .int .i64 54, .int .i64 55, .int .i64 56] 3)).drew := ⟨_, rfl⟩
  have qx : V2.row? (b5) = V.row? (b5) := by rw [hV2, row_drew, row_alloc_past _ _ _ (row_lt rx)]
  have q8 : V2.row? (b5 + 1) = some (insA 0 0 0 0 0) := by rw [hV2, row_drew, row_alloc_past _ _ _ (row_lt r8)]; exact r8
  have qL : V2.row? V.heap.size = some #[.int .i64 0, .int .i64 51, .int .i64 52, .int .i64 53, .int .i64 0, .int .i64 54, .int .i64 55, .int .i64 56] := by rw [hV2, row_drew]; exact row_alloc_at _ _ _ _ rfl
  rw [rx] at qx
  have t1 : V2.cell? ⟨b5, 1, none⟩ = some (.int .i64 (rd : Int)) := by rw [row_cell qx]; rfl
  have t2 : V2.cell? ⟨b5, 2, none⟩ = some (.int .i64 (rs1 : Int)) := by rw [row_cell qx]; rfl
  have hVC2 : Chg [] w V2 := by rw [hV2]; exact (HVC.out.alloc _).drew
  go_wp2_with fail
  rw [← hV2]
  have HV2 := Lib.hid hVC2
  clear hV2 hVC2
  refine hK _ _ ⟨t1, t2, q8⟩ ?_
  clear hK K
  refine wpT_eff rfl (by rfl) (fun K hK => ?_)
  have hP := pick_any (w := V2) (B := V.heap.size) (c := 8) [0, 51, 52, 53, 0, 54, 55, 56] rfl (fun j u hu => by rw [row_cell qL]; revert hu; match j with | 0 => intro hu; cases hu; rfl | 1 => intro hu; cases hu; rfl | 2 => intro hu; cases hu; rfl | 3 => intro hu; cases hu; rfl | 4 => intro hu; cases hu; rfl | 5 => intro hu; cases hu; rfl | 6 => intro hu; cases hu; rfl | 7 => intro hu; cases hu; rfl | _ + 8 => intro hu; cases hu) f
  obtain ⟨op, hop⟩ : ∃ op, op = ([0, 51, 52, 53, 0, 54, 55, 56] : List Nat).getD f 0 := ⟨_, rfl⟩
  rw [← hop] at hP
  have HOP := Lib.hid hop
  have HP := Lib.hid hP
  clear hop hP
  go_wp2_with fail
  refine HP.out.mono ?_
  rintro e w' ⟨rfl, rfl⟩
  go_wp2_with fail
  refine hK _ _ ⟨t1, t2, q8⟩ ?_
  clear hK K
  refine wpT_eff rfl (by rfl) (fun K hK => ?_)
  have hO : Calls Tryd.prog 29 #[.int .i64 (op : Int), .agg #[.int .i64 0, .int .i64 (rd : Int), .int .i64 (rs1 : Int), .int .i64 0, .int .u32 (q : Int)]] w' fun e w2 => e = .returned (.agg (if op = 0 then insA 0 0 0 0 0 else insA op rd rs1 0 q)) ∧ Chg [] w' w2 := of_any op rd rs1 0 q 0 w'
  obtain ⟨R, hR⟩ : ∃ R, R = if op = 0 then insA 0 0 0 0 0 else insA op rd rs1 0 q := ⟨_, rfl⟩
  have hRs : R.size = 5 := by rw [hR]; split <;> rfl
  have hRa : allOne R = true := by rw [hR]; split <;> rfl
  rw [← hR] at hO
  have HO := Lib.hid hO
  have HR := Lib.hid hR
  clear hO hR
  go_wp2_with fail
  refine HO.out.mono ?_
  rintro e w2 ⟨rfl, hc2⟩
  have k8 : w2.row? (b5 + 1) = some (insA 0 0 0 0 0) := by rw [hc2.row (row_lt q8) (by simp)]; exact q8
  have kx := hc2.row (row_lt qx) (by simp)
  rw [qx] at kx
  have k1 : w2.cell? ⟨b5, 1, none⟩ = some (.int .i64 (rd : Int)) := by rw [row_cell kx]; rfl
  have k2 : w2.cell? ⟨b5, 2, none⟩ = some (.int .i64 (rs1 : Int)) := by rw [row_cell kx]; rfl
  have HC2 : Hid (Chg [] w w2) := Lib.hid (HV2.out.trans hc2)
  clear hc2
  go_wp2_with fail
  refine hK _ _ ⟨k1, k2, k8⟩ ?_
  clear hK K
  refine wpT_brk rfl (by rfl) (fun K hK => ?_)
  go_wp2_with (refine wpList_store_row a26 _ _ rfl rfl rfl rfl rfl k8 rfl hRs hRa ?_)
  refine wpT_end ?_
  go_wp2
  refine bodyPost_ret (ret_cell1 rfl a26 rfl (by rw [row_setRow, if_pos rfl, k8]; rfl) hRs) rfl ?_
  exact ⟨by rw [HRR.out, HR.out, HOP.out, HQ.out], HC2.out.setRow (Or.inr (by have := H5.out; omega)) _⟩
end Go.Proofs.L
