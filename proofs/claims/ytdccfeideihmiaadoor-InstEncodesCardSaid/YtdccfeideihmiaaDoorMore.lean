/- Proved here: lemmas and contracts (More) for the laws of this seat, for all values of the stated types; no further condition. -/
import Derived.Test.YtdccfeideihmiaaDoorParts
open Go Go.RowKit Go.Lib
namespace Go.Proofs.L
set_option maxHeartbeats 1600000 in
theorem more3 (x rd rs1 rs2 f top : Nat) (hx : x < 4294967296) (hlo : x % 128 = 3) (w : World) : Calls Tryd.prog 31 #[.int .u32 (x : Int), .agg (insA 0 rd rs1 rs2 0), .int .i64 (f : Int), .int .u32 (top : Int)] w fun e w' => e = .returned (.agg (if ([11, 12, 13, 0, 14, 15] : List Nat).getD f 0 = 0 then insA 0 0 0 0 0 else insA (([11, 12, 13, 0, 14, 15] : List Nat).getD f 0) rd rs1 0 (immI x))) ∧ Chg [] w w' := by
  have HU : Hid (∀ w : World, Calls Tryd.prog 16 #[.int .u32 (x : Int)] w fun e w' => e = .returned (.int .u32 (immI x : Nat)) ∧ w' = w) := Lib.hid (immI_any x hx)
  have E : bits .and .u32 (x : Int) 127 = ((x % 128 : Nat) : Int) := by
    rw [show ((127 : Int)) = ((127 : Nat) : Int) from rfl, and32 x 127 hx (by decide), show (127 : Nat) = 2 ^ 7 - 1 from rfl, and_low]
  rw [hlo] at E
  have HX := Lib.hid hx
  obtain ⟨iI, hiI⟩ : ∃ y, y = immI x := ⟨_, rfl⟩
  rw [← hiI] at HU
  try rw [← hiI]
  have HII := Lib.hid hiI
  clear hx hlo hiI
  obtain ⟨RR, hRR⟩ : ∃ RR, RR = if ([11, 12, 13, 0, 14, 15] : List Nat).getD f 0 = 0 then insA 0 0 0 0 0 else insA (([11, 12, 13, 0, 14, 15] : List Nat).getD f 0) rd rs1 0 (iI) := ⟨_, rfl⟩
  rw [← hRR]
  have HRR := Lib.hid hRR
  clear hRR
  rw [show insA 0 rd rs1 rs2 0 = #[.int .i64 0, .int .i64 (rd : Int), .int .i64 (rs1 : Int), .int .i64 (rs2 : Int), .int .u32 0] from rfl]
  go_enter Tryd.func31, Tryd.ntmps31
  go_wp2_with fail
  refine wp_region_C (fun w' => w'.cell? ⟨w.heap.size, 1, none⟩ = some (.int .i64 (rd : Int)) ∧ w'.cell? ⟨w.heap.size, 2, none⟩ = some (.int .i64 (rs1 : Int))) [(0, 0), (1, 1), (2, 0), (3, 1), (4, 0), (5, 0), (6, 0), (7, 2), (8, 2)] rfl (by kernel_rfl) ?hSA ?hTA
  case hSA => simp
  refine wpT_pureD (v := ?_) (some 11) rfl rfl (by rfl) (fun w' => ?_) ?_
  rotate_left
  · (go_simp; try with_reducible rfl)
  try simp only [Act.put, List.setIfInBounds_toArray, List.set_cons_zero, List.set_cons_succ]
  refine wpT_readD (v := ?_) (some 12) rfl rfl (by rfl) (fun w' hw => ?_) ?_
  rotate_left
  · (obtain ⟨q0, q1⟩ := hw; go_simp; try with_reducible rfl)
  try simp only [Act.put, List.setIfInBounds_toArray, List.set_cons_zero, List.set_cons_succ]
  refine wpT_pureD (v := ?_) (some 13) rfl rfl (by rfl) (fun w' => ?_) ?_
  rotate_left
  · (go_simp; try with_reducible rfl)
  try simp only [Act.put, List.setIfInBounds_toArray, List.set_cons_zero, List.set_cons_succ]
  refine wpT_readD (v := ?_) (some 14) rfl rfl (by rfl) (fun w' hw => ?_) ?_
  rotate_left
  · (obtain ⟨q0, q1⟩ := hw; go_simp; try with_reducible rfl)
  try simp only [Act.put, List.setIfInBounds_toArray, List.set_cons_zero, List.set_cons_succ]
  refine wpT_pureD (v := ?_) (some 15) rfl rfl (by rfl) (fun w' => ?_) ?_
  rotate_left
  · (go_simp; try with_reducible rfl)
  try simp only [Act.put, List.setIfInBounds_toArray, List.set_cons_zero, List.set_cons_succ]
  refine wpT_call (d := some 16) (f := 16) (args := #[.int .u32 (x : Int)]) (v := .int .u32 (iI : Int)) rfl rfl (by rfl) (fun w' => by first | rfl | go_simp) (fun w' => HU.out w') ?_
  try simp only [Act.put, List.setIfInBounds_toArray, List.set_cons_zero, List.set_cons_succ]
  try simp only [Act.put, List.setIfInBounds_toArray, List.set_cons_zero, List.set_cons_succ]
  refine wpT_pureD (v := ?_) (some 17) rfl rfl (by rfl) (fun w' => ?_) ?_
  rotate_left
  · (go_simp; try with_reducible rfl)
  try simp only [Act.put, List.setIfInBounds_toArray, List.set_cons_zero, List.set_cons_succ]
  refine wpT_eff rfl (by rfl) (fun K hK => ?_)
  go_wp2_with fail
  refine hK _ _ (by go_simp) ?_
  clear hK K
  refine wpT_eff rfl (by rfl) (fun K hK => ?_)
  go_wp2_with fail
  refine hK _ _ (by go_simp) ?_
  clear hK K
  refine wpT_end ?_
  obtain ⟨V, hV⟩ : ∃ V, V = (((w.alloc (.cells #[.int .i64 0, .int .i64 (rd : Int), .int .i64 (rs1 : Int), .int .i64 (rs2 : Int), .int .u32 0] 26)).alloc (.cells #[.int .i64 0, .int .i64 0, .int .i64 0, .int .i64 0, .int .u32 0] 26)).alloc (.cells #[.int .i64 0, .int .i64 (rd : Int), .int .i64 (rs1 : Int), .int .i64 0, .int .u32 (iI : Int)] 26)).drew := ⟨_, rfl⟩
  rw [← hV]
  obtain ⟨b5, h5⟩ : ∃ b, b = w.heap.size := ⟨_, rfl⟩
  have r5 : V.row? b5 = some (insA 0 rd rs1 rs2 0) := by
    rw [hV, row_drew, row_alloc_past _ _ _ (by simp; omega), row_alloc_past _ _ _ (by simp; omega)]; exact row_alloc_at _ _ _ _ h5
  have r8 : V.row? (b5 + 1) = some (insA 0 0 0 0 0) := by
    rw [hV, row_drew, row_alloc_past _ _ _ (by simp; omega)]; exact row_alloc_at _ _ _ _ (by simp; omega)
  have r9 : V.row? (b5 + 1 + 1) = some (insA 0 rd rs1 0 iI) := by
    rw [hV, row_drew]; exact row_alloc_at _ _ _ _ (by simp; omega)
  have hVC : Chg [] w V := by rw [hV]; exact (((((Chg.refl _ _).alloc _).alloc _).alloc _).drew)
  rw [← h5]
  have HVC := Lib.hid hVC
  have H5 := Lib.hid h5
  clear hV hVC h5 HU
  go_wp2_with fail
  refine wp_region_C (fun w' => w'.row? (b5 + 1 + 1) = some (insA 0 rd rs1 0 iI) ∧ w'.row? (b5 + 1) = some (insA 0 0 0 0 0)) [(0, 0), (3, 1), (1, 2), (2, 2), (4, 2), (5, 3)] rfl (by kernel_rfl) ?hSB ?hTB
  case hSB => exact ⟨r9, r8⟩
  refine wpT_pureD (v := ?_) (some 22) rfl rfl (by rfl) (fun w' => ?_) ?_
  rotate_left
  · (go_simp; try with_reducible rfl)
  try simp only [Act.put, List.setIfInBounds_toArray, List.set_cons_zero, List.set_cons_succ]
  refine wpT_load_part a26 [.int .i64 0, .int .i64 (rd : Int), .int .i64 (rs1 : Int), .int .i64 0, .int .u32 (iI : Int)] (some 25) _ rfl rfl rfl (by rfl) rfl rfl (fun w' hw j u hu => by rw [Nat.zero_add, row_cell hw.1]; simpa [insA] using hu) ?_
  try simp only [Act.put, List.setIfInBounds_toArray, List.set_cons_zero, List.set_cons_succ]
  try simp only [Act.put, List.setIfInBounds_toArray, List.set_cons_zero, List.set_cons_succ]
  refine wpT_eff rfl (by rfl) (fun K hK => ?_)
  go_wp2_with fail
  refine hK _ _ (by exact ⟨by rw [row_drew, row_alloc_past _ _ _ (row_lt r9)]; exact r9, by rw [row_drew, row_alloc_past _ _ _ (row_lt r8)]; exact r8⟩) ?_
  clear hK K
  refine wpT_eff rfl (by rfl) (fun K hK => ?_)
  obtain ⟨V2, hV2⟩ : ∃ V2, V2 = (V.alloc (.cells #[.int .i64 11, .int .i64 12, .int .i64 13, .int .i64 0, .int .i64 14, .int .i64 15] 3)).drew := ⟨_, rfl⟩
  have q1 : V2.row? (b5 + 1 + 1) = some (insA 0 rd rs1 0 iI) := by rw [hV2, row_drew, row_alloc_past _ _ _ (row_lt r9)]; exact r9
  have q8 : V2.row? (b5 + 1) = some (insA 0 0 0 0 0) := by rw [hV2, row_drew, row_alloc_past _ _ _ (row_lt r8)]; exact r8
  have qL : V2.row? V.heap.size = some #[.int .i64 11, .int .i64 12, .int .i64 13, .int .i64 0, .int .i64 14, .int .i64 15] := by rw [hV2, row_drew]; exact row_alloc_at _ _ _ _ rfl
  have hVC2 : Chg [] w V2 := by rw [hV2]; exact (HVC.out.alloc _).drew
  have hP := pick_any (w := V2) (B := V.heap.size) (c := 6) [11, 12, 13, 0, 14, 15] rfl (fun j u hu => by rw [row_cell qL]; revert hu; match j with | 0 => intro hu; cases hu; rfl | 1 => intro hu; cases hu; rfl | 2 => intro hu; cases hu; rfl | 3 => intro hu; cases hu; rfl | 4 => intro hu; cases hu; rfl | 5 => intro hu; cases hu; rfl | _ + 6 => intro hu; cases hu) f
  obtain ⟨op, hop⟩ : ∃ op, op = ([11, 12, 13, 0, 14, 15] : List Nat).getD f 0 := ⟨_, rfl⟩
  rw [← hop] at hP
  have HOP := Lib.hid hop
  have HP := Lib.hid hP
  clear hop hP
  go_wp2_with fail
  rw [← hV2]
  have HV2 := Lib.hid hVC2
  clear hV2 hVC2
  refine HP.out.mono ?_
  rintro e w' ⟨rfl, rfl⟩
  go_wp2_with fail
  refine hK _ _ ⟨q1, q8⟩ ?_
  clear hK K
  refine wpT_eff rfl (by rfl) (fun K hK => ?_)
  have hO : Calls Tryd.prog 29 #[.int .i64 (op : Int), .agg #[.int .i64 0, .int .i64 (rd : Int), .int .i64 (rs1 : Int), .int .i64 0, .int .u32 (iI : Int)]] w' fun e w2 => e = .returned (.agg (if op = 0 then insA 0 0 0 0 0 else insA op rd rs1 0 iI)) ∧ Chg [] w' w2 := of_any op rd rs1 0 iI 0 w'
  obtain ⟨R, hR⟩ : ∃ R, R = if op = 0 then insA 0 0 0 0 0 else insA op rd rs1 0 iI := ⟨_, rfl⟩
  have hRs : R.size = 5 := by rw [hR]; split <;> rfl
  have hRa : allOne R = true := by rw [hR]; split <;> rfl
  rw [← hR] at hO
  have HO := Lib.hid hO
  have HR := Lib.hid hR
  clear hO hR
  go_wp2_with fail
  refine HO.out.mono ?_
  rintro e w2 ⟨rfl, hc2⟩
  have k8 : w2.row? (b5 + 1) = some (insA 0 0 0 0 0) := by rw [hc2.row (row_lt q8) (by simp)]; exact q8
  have k1 : w2.row? (b5 + 1 + 1) = some (insA 0 rd rs1 0 iI) := by rw [hc2.row (row_lt q1) (by simp)]; exact q1
  have HC2 : Hid (Chg [] w w2) := Lib.hid (HV2.out.trans hc2)
  clear hc2
  go_wp2_with fail
  refine hK _ _ ⟨k1, k8⟩ ?_
  clear hK K
  refine wpT_brk rfl (by rfl) (fun K hK => ?_)
  go_wp2_with (refine wpList_store_row a26 _ _ rfl rfl rfl rfl rfl k8 rfl hRs hRa ?_)
  refine wpT_end ?_
  go_wp2
  refine bodyPost_ret (ret_cell1 rfl a26 rfl (by rw [row_setRow, if_pos rfl, k8]; rfl) hRs) rfl ?_
  exact ⟨by rw [HRR.out, HR.out, HOP.out], HC2.out.setRow (Or.inr (by have := H5.out; omega)) _⟩
set_option maxHeartbeats 1600000 in
theorem more51a (x rd rs1 rs2 f top : Nat) (hx : x < 4294967296) (hlo : x % 128 = 51) (ht : top = 0) (w : World) : Calls Tryd.prog 31 #[.int .u32 (x : Int), .agg (insA 0 rd rs1 rs2 0), .int .i64 (f : Int), .int .u32 (top : Int)] w fun e w' => e = .returned (.agg (if ([28, 30, 31, 32, 33, 34, 36, 37] : List Nat).getD f 0 = 0 then insA 0 0 0 0 0 else insA (([28, 30, 31, 32, 33, 34, 36, 37] : List Nat).getD f 0) rd rs1 rs2 0)) ∧ Chg [] w w' := by
  have HU : Hid (∀ w : World, Calls Tryd.prog 16 #[.int .u32 (x : Int)] w fun e w' => e = .returned (.int .u32 (immI x : Nat)) ∧ w' = w) := Lib.hid (immI_any x hx)
  have E : bits .and .u32 (x : Int) 127 = ((x % 128 : Nat) : Int) := by
    rw [show ((127 : Int)) = ((127 : Nat) : Int) from rfl, and32 x 127 hx (by decide), show (127 : Nat) = 2 ^ 7 - 1 from rfl, and_low]
  subst ht
  rw [hlo] at E
  have HX := Lib.hid hx
  obtain ⟨iI, hiI⟩ : ∃ y, y = immI x := ⟨_, rfl⟩
  rw [← hiI] at HU
  try rw [← hiI]
  have HII := Lib.hid hiI
  clear hx hlo hiI
  obtain ⟨RR, hRR⟩ : ∃ RR, RR = if ([28, 30, 31, 32, 33, 34, 36, 37] : List Nat).getD f 0 = 0 then insA 0 0 0 0 0 else insA (([28, 30, 31, 32, 33, 34, 36, 37] : List Nat).getD f 0) rd rs1 rs2 0 := ⟨_, rfl⟩
  rw [← hRR]
  have HRR := Lib.hid hRR
  clear hRR
  rw [show insA 0 rd rs1 rs2 0 = #[.int .i64 0, .int .i64 (rd : Int), .int .i64 (rs1 : Int), .int .i64 (rs2 : Int), .int .u32 0] from rfl]
  go_enter Tryd.func31, Tryd.ntmps31
  go_wp2_with fail
  refine wp_region_C (fun w' => w'.cell? ⟨w.heap.size, 1, none⟩ = some (.int .i64 (rd : Int)) ∧ w'.cell? ⟨w.heap.size, 2, none⟩ = some (.int .i64 (rs1 : Int))) [(0, 0), (1, 1), (2, 0), (3, 1), (4, 0), (5, 0), (6, 0), (7, 2), (8, 2)] rfl (by kernel_rfl) ?hSA ?hTA
  case hSA => simp
  refine wpT_pureD (v := ?_) (some 11) rfl rfl (by rfl) (fun w' => ?_) ?_
  rotate_left
  · (go_simp; try with_reducible rfl)
  try simp only [Act.put, List.setIfInBounds_toArray, List.set_cons_zero, List.set_cons_succ]
  refine wpT_readD (v := ?_) (some 12) rfl rfl (by rfl) (fun w' hw => ?_) ?_
  rotate_left
  · (obtain ⟨q0, q1⟩ := hw; go_simp; try with_reducible rfl)
  try simp only [Act.put, List.setIfInBounds_toArray, List.set_cons_zero, List.set_cons_succ]
  refine wpT_pureD (v := ?_) (some 13) rfl rfl (by rfl) (fun w' => ?_) ?_
  rotate_left
  · (go_simp; try with_reducible rfl)
  try simp only [Act.put, List.setIfInBounds_toArray, List.set_cons_zero, List.set_cons_succ]
  refine wpT_readD (v := ?_) (some 14) rfl rfl (by rfl) (fun w' hw => ?_) ?_
  rotate_left
  · (obtain ⟨q0, q1⟩ := hw; go_simp; try with_reducible rfl)
  try simp only [Act.put, List.setIfInBounds_toArray, List.set_cons_zero, List.set_cons_succ]
  refine wpT_pureD (v := ?_) (some 15) rfl rfl (by rfl) (fun w' => ?_) ?_
  rotate_left
  · (go_simp; try with_reducible rfl)
  try simp only [Act.put, List.setIfInBounds_toArray, List.set_cons_zero, List.set_cons_succ]
  refine wpT_call (d := some 16) (f := 16) (args := #[.int .u32 (x : Int)]) (v := .int .u32 (iI : Int)) rfl rfl (by rfl) (fun w' => by first | rfl | go_simp) (fun w' => HU.out w') ?_
  try simp only [Act.put, List.setIfInBounds_toArray, List.set_cons_zero, List.set_cons_succ]
  try simp only [Act.put, List.setIfInBounds_toArray, List.set_cons_zero, List.set_cons_succ]
  refine wpT_pureD (v := ?_) (some 17) rfl rfl (by rfl) (fun w' => ?_) ?_
  rotate_left
  · (go_simp; try with_reducible rfl)
  try simp only [Act.put, List.setIfInBounds_toArray, List.set_cons_zero, List.set_cons_succ]
  refine wpT_eff rfl (by rfl) (fun K hK => ?_)
  go_wp2_with fail
  refine hK _ _ (by go_simp) ?_
  clear hK K
  refine wpT_eff rfl (by rfl) (fun K hK => ?_)
  go_wp2_with fail
  refine hK _ _ (by go_simp) ?_
  clear hK K
  refine wpT_end ?_
  obtain ⟨V, hV⟩ : ∃ V, V = (((w.alloc (.cells #[.int .i64 0, .int .i64 (rd : Int), .int .i64 (rs1 : Int), .int .i64 (rs2 : Int), .int .u32 0] 26)).alloc (.cells #[.int .i64 0, .int .i64 0, .int .i64 0, .int .i64 0, .int .u32 0] 26)).alloc (.cells #[.int .i64 0, .int .i64 (rd : Int), .int .i64 (rs1 : Int), .int .i64 0, .int .u32 (iI : Int)] 26)).drew := ⟨_, rfl⟩
  rw [← hV]
  obtain ⟨b5, h5⟩ : ∃ b, b = w.heap.size := ⟨_, rfl⟩
  have r5 : V.row? b5 = some (insA 0 rd rs1 rs2 0) := by
    rw [hV, row_drew, row_alloc_past _ _ _ (by simp; omega), row_alloc_past _ _ _ (by simp; omega)]; exact row_alloc_at _ _ _ _ h5
  have r8 : V.row? (b5 + 1) = some (insA 0 0 0 0 0) := by
    rw [hV, row_drew, row_alloc_past _ _ _ (by simp; omega)]; exact row_alloc_at _ _ _ _ (by simp; omega)
  have r9 : V.row? (b5 + 1 + 1) = some (insA 0 rd rs1 0 iI) := by
    rw [hV, row_drew]; exact row_alloc_at _ _ _ _ (by simp; omega)
  have hVC : Chg [] w V := by rw [hV]; exact (((((Chg.refl _ _).alloc _).alloc _).alloc _).drew)
  rw [← h5]
  have HVC := Lib.hid hVC
  have H5 := Lib.hid h5
  clear hV hVC h5 HU
  go_wp2_with fail
  refine wp_region_C (fun w' => w'.row? (b5) = some (insA 0 rd rs1 rs2 0) ∧ w'.row? (b5 + 1) = some (insA 0 0 0 0 0)) [(0, 0), (3, 1), (1, 2), (2, 2), (4, 2), (5, 3)] rfl (by kernel_rfl) ?hSB ?hTB
  case hSB => exact ⟨r5, r8⟩
  refine wpT_pureD (v := ?_) (some 87) rfl rfl (by rfl) (fun w' => ?_) ?_
  rotate_left
  · (go_simp; try with_reducible rfl)
  try simp only [Act.put, List.setIfInBounds_toArray, List.set_cons_zero, List.set_cons_succ]
  refine wpT_load_part a26 [.int .i64 0, .int .i64 (rd : Int), .int .i64 (rs1 : Int), .int .i64 (rs2 : Int), .int .u32 0] (some 90) _ rfl rfl rfl (by rfl) rfl rfl (fun w' hw j u hu => by rw [Nat.zero_add, row_cell hw.1]; simpa [insA] using hu) ?_
  try simp only [Act.put, List.setIfInBounds_toArray, List.set_cons_zero, List.set_cons_succ]
  try simp only [Act.put, List.setIfInBounds_toArray, List.set_cons_zero, List.set_cons_succ]
  refine wpT_eff rfl (by rfl) (fun K hK => ?_)
  go_wp2_with fail
  refine hK _ _ (by exact ⟨by rw [row_drew, row_alloc_past _ _ _ (row_lt r5)]; exact r5, by rw [row_drew, row_alloc_past _ _ _ (row_lt r8)]; exact r8⟩) ?_
  clear hK K
  refine wpT_eff rfl (by rfl) (fun K hK => ?_)
  obtain ⟨V2, hV2⟩ : ∃ V2, V2 = (V.alloc (.cells #[.int .i64 28, .int .i64 30, .int .i64 31, .int .i64 32, .int .i64 33, .int .i64 34, .int .i64 36, .int .i64 37] 3)).drew := ⟨_, rfl⟩
  have q1 : V2.row? (b5) = some (insA 0 rd rs1 rs2 0) := by rw [hV2, row_drew, row_alloc_past _ _ _ (row_lt r5)]; exact r5
  have q8 : V2.row? (b5 + 1) = some (insA 0 0 0 0 0) := by rw [hV2, row_drew, row_alloc_past _ _ _ (row_lt r8)]; exact r8
  have qL : V2.row? V.heap.size = some #[.int .i64 28, .int .i64 30, .int .i64 31, .int .i64 32, .int .i64 33, .int .i64 34, .int .i64 36, .int .i64 37] := by rw [hV2, row_drew]; exact row_alloc_at _ _ _ _ rfl
  have hVC2 : Chg [] w V2 := by rw [hV2]; exact (HVC.out.alloc _).drew
  have hP := pick_any (w := V2) (B := V.heap.size) (c := 8) [28, 30, 31, 32, 33, 34, 36, 37] rfl (fun j u hu => by rw [row_cell qL]; revert hu; match j with | 0 => intro hu; cases hu; rfl | 1 => intro hu; cases hu; rfl | 2 => intro hu; cases hu; rfl | 3 => intro hu; cases hu; rfl | 4 => intro hu; cases hu; rfl | 5 => intro hu; cases hu; rfl | 6 => intro hu; cases hu; rfl | 7 => intro hu; cases hu; rfl | _ + 8 => intro hu; cases hu) f
  obtain ⟨op, hop⟩ : ∃ op, op = ([28, 30, 31, 32, 33, 34, 36, 37] : List Nat).getD f 0 := ⟨_, rfl⟩
  rw [← hop] at hP
  have HOP := Lib.hid hop
  have HP := Lib.hid hP
  clear hop hP
  go_wp2_with fail
  rw [← hV2]
  have HV2 := Lib.hid hVC2
  clear hV2 hVC2
  refine HP.out.mono ?_
  rintro e w' ⟨rfl, rfl⟩
  go_wp2_with fail
  refine hK _ _ ⟨q1, q8⟩ ?_
  clear hK K
  refine wpT_eff rfl (by rfl) (fun K hK => ?_)
  have hO : Calls Tryd.prog 29 #[.int .i64 (op : Int), .agg #[.int .i64 0, .int .i64 (rd : Int), .int .i64 (rs1 : Int), .int .i64 (rs2 : Int), .int .u32 0]] w' fun e w2 => e = .returned (.agg (if op = 0 then insA 0 0 0 0 0 else insA op rd rs1 rs2 0)) ∧ Chg [] w' w2 := of_any op rd rs1 rs2 0 0 w'
  obtain ⟨R, hR⟩ : ∃ R, R = if op = 0 then insA 0 0 0 0 0 else insA op rd rs1 rs2 0 := ⟨_, rfl⟩
  have hRs : R.size = 5 := by rw [hR]; split <;> rfl
  have hRa : allOne R = true := by rw [hR]; split <;> rfl
  rw [← hR] at hO
  have HO := Lib.hid hO
  have HR := Lib.hid hR
  clear hO hR
  go_wp2_with fail
  refine HO.out.mono ?_
  rintro e w2 ⟨rfl, hc2⟩
  have k8 : w2.row? (b5 + 1) = some (insA 0 0 0 0 0) := by rw [hc2.row (row_lt q8) (by simp)]; exact q8
  have k1 : w2.row? (b5) = some (insA 0 rd rs1 rs2 0) := by rw [hc2.row (row_lt q1) (by simp)]; exact q1
  have HC2 : Hid (Chg [] w w2) := Lib.hid (HV2.out.trans hc2)
  clear hc2
  go_wp2_with fail
  refine hK _ _ ⟨k1, k8⟩ ?_
  clear hK K
  refine wpT_brk rfl (by rfl) (fun K hK => ?_)
  go_wp2_with (refine wpList_store_row a26 _ _ rfl rfl rfl rfl rfl k8 rfl hRs hRa ?_)
  refine wpT_end ?_
  go_wp2
  refine bodyPost_ret (ret_cell1 rfl a26 rfl (by rw [row_setRow, if_pos rfl, k8]; rfl) hRs) rfl ?_
  exact ⟨by rw [HRR.out, HR.out, HOP.out], HC2.out.setRow (Or.inr (by have := H5.out; omega)) _⟩
set_option maxHeartbeats 1600000 in
theorem more51m (x rd rs1 rs2 f top : Nat) (hx : x < 4294967296) (hlo : x % 128 = 51) (ht : top = 1) (w : World) : Calls Tryd.prog 31 #[.int .u32 (x : Int), .agg (insA 0 rd rs1 rs2 0), .int .i64 (f : Int), .int .u32 (top : Int)] w fun e w' => e = .returned (.agg (if ([38, 39, 40, 41, 42, 43, 44, 45] : List Nat).getD f 0 = 0 then insA 0 0 0 0 0 else insA (([38, 39, 40, 41, 42, 43, 44, 45] : List Nat).getD f 0) rd rs1 rs2 0)) ∧ Chg [] w w' := by
  have HU : Hid (∀ w : World, Calls Tryd.prog 16 #[.int .u32 (x : Int)] w fun e w' => e = .returned (.int .u32 (immI x : Nat)) ∧ w' = w) := Lib.hid (immI_any x hx)
  have E : bits .and .u32 (x : Int) 127 = ((x % 128 : Nat) : Int) := by
    rw [show ((127 : Int)) = ((127 : Nat) : Int) from rfl, and32 x 127 hx (by decide), show (127 : Nat) = 2 ^ 7 - 1 from rfl, and_low]
  subst ht
  rw [hlo] at E
  have HX := Lib.hid hx
  obtain ⟨iI, hiI⟩ : ∃ y, y = immI x := ⟨_, rfl⟩
  rw [← hiI] at HU
  try rw [← hiI]
  have HII := Lib.hid hiI
  clear hx hlo hiI
  obtain ⟨RR, hRR⟩ : ∃ RR, RR = if ([38, 39, 40, 41, 42, 43, 44, 45] : List Nat).getD f 0 = 0 then insA 0 0 0 0 0 else insA (([38, 39, 40, 41, 42, 43, 44, 45] : List Nat).getD f 0) rd rs1 rs2 0 := ⟨_, rfl⟩
  rw [← hRR]
  have HRR := Lib.hid hRR
  clear hRR
  rw [show insA 0 rd rs1 rs2 0 = #[.int .i64 0, .int .i64 (rd : Int), .int .i64 (rs1 : Int), .int .i64 (rs2 : Int), .int .u32 0] from rfl]
  go_enter Tryd.func31, Tryd.ntmps31
  go_wp2_with fail
  refine wp_region_C (fun w' => w'.cell? ⟨w.heap.size, 1, none⟩ = some (.int .i64 (rd : Int)) ∧ w'.cell? ⟨w.heap.size, 2, none⟩ = some (.int .i64 (rs1 : Int))) [(0, 0), (1, 1), (2, 0), (3, 1), (4, 0), (5, 0), (6, 0), (7, 2), (8, 2)] rfl (by kernel_rfl) ?hSA ?hTA
  case hSA => simp
  refine wpT_pureD (v := ?_) (some 11) rfl rfl (by rfl) (fun w' => ?_) ?_
  rotate_left
  · (go_simp; try with_reducible rfl)
  try simp only [Act.put, List.setIfInBounds_toArray, List.set_cons_zero, List.set_cons_succ]
  refine wpT_readD (v := ?_) (some 12) rfl rfl (by rfl) (fun w' hw => ?_) ?_
  rotate_left
  · (obtain ⟨q0, q1⟩ := hw; go_simp; try with_reducible rfl)
  try simp only [Act.put, List.setIfInBounds_toArray, List.set_cons_zero, List.set_cons_succ]
  refine wpT_pureD (v := ?_) (some 13) rfl rfl (by rfl) (fun w' => ?_) ?_
  rotate_left
  · (go_simp; try with_reducible rfl)
  try simp only [Act.put, List.setIfInBounds_toArray, List.set_cons_zero, List.set_cons_succ]
  refine wpT_readD (v := ?_) (some 14) rfl rfl (by rfl) (fun w' hw => ?_) ?_
  rotate_left
  · (obtain ⟨q0, q1⟩ := hw; go_simp; try with_reducible rfl)
  try simp only [Act.put, List.setIfInBounds_toArray, List.set_cons_zero, List.set_cons_succ]
  refine wpT_pureD (v := ?_) (some 15) rfl rfl (by rfl) (fun w' => ?_) ?_
  rotate_left
  · (go_simp; try with_reducible rfl)
  try simp only [Act.put, List.setIfInBounds_toArray, List.set_cons_zero, List.set_cons_succ]
  refine wpT_call (d := some 16) (f := 16) (args := #[.int .u32 (x : Int)]) (v := .int .u32 (iI : Int)) rfl rfl (by rfl) (fun w' => by first | rfl | go_simp) (fun w' => HU.out w') ?_
  try simp only [Act.put, List.setIfInBounds_toArray, List.set_cons_zero, List.set_cons_succ]
  try simp only [Act.put, List.setIfInBounds_toArray, List.set_cons_zero, List.set_cons_succ]
  refine wpT_pureD (v := ?_) (some 17) rfl rfl (by rfl) (fun w' => ?_) ?_
  rotate_left
  · (go_simp; try with_reducible rfl)
  try simp only [Act.put, List.setIfInBounds_toArray, List.set_cons_zero, List.set_cons_succ]
  refine wpT_eff rfl (by rfl) (fun K hK => ?_)
  go_wp2_with fail
  refine hK _ _ (by go_simp) ?_
  clear hK K
  refine wpT_eff rfl (by rfl) (fun K hK => ?_)
  go_wp2_with fail
  refine hK _ _ (by go_simp) ?_
  clear hK K
  refine wpT_end ?_
  obtain ⟨V, hV⟩ : ∃ V, V = (((w.alloc (.cells #[.int .i64 0, .int .i64 (rd : Int), .int .i64 (rs1 : Int), .int .i64 (rs2 : Int), .int .u32 0] 26)).alloc (.cells #[.int .i64 0, .int .i64 0, .int .i64 0, .int .i64 0, .int .u32 0] 26)).alloc (.cells #[.int .i64 0, .int .i64 (rd : Int), .int .i64 (rs1 : Int), .int .i64 0, .int .u32 (iI : Int)] 26)).drew := ⟨_, rfl⟩
  rw [← hV]
  obtain ⟨b5, h5⟩ : ∃ b, b = w.heap.size := ⟨_, rfl⟩
  have r5 : V.row? b5 = some (insA 0 rd rs1 rs2 0) := by
    rw [hV, row_drew, row_alloc_past _ _ _ (by simp; omega), row_alloc_past _ _ _ (by simp; omega)]; exact row_alloc_at _ _ _ _ h5
  have r8 : V.row? (b5 + 1) = some (insA 0 0 0 0 0) := by
    rw [hV, row_drew, row_alloc_past _ _ _ (by simp; omega)]; exact row_alloc_at _ _ _ _ (by simp; omega)
  have r9 : V.row? (b5 + 1 + 1) = some (insA 0 rd rs1 0 iI) := by
    rw [hV, row_drew]; exact row_alloc_at _ _ _ _ (by simp; omega)
  have hVC : Chg [] w V := by rw [hV]; exact (((((Chg.refl _ _).alloc _).alloc _).alloc _).drew)
  rw [← h5]
  have HVC := Lib.hid hVC
  have H5 := Lib.hid h5
  clear hV hVC h5 HU
  go_wp2_with fail
  refine wp_region_C (fun w' => w'.row? (b5) = some (insA 0 rd rs1 rs2 0) ∧ w'.row? (b5 + 1) = some (insA 0 0 0 0 0)) [(0, 0), (3, 1), (1, 2), (2, 2), (4, 2), (5, 3)] rfl (by kernel_rfl) ?hSB ?hTB
  case hSB => exact ⟨r5, r8⟩
  refine wpT_pureD (v := ?_) (some 94) rfl rfl (by rfl) (fun w' => ?_) ?_
  rotate_left
  · (go_simp; try with_reducible rfl)
  try simp only [Act.put, List.setIfInBounds_toArray, List.set_cons_zero, List.set_cons_succ]
  refine wpT_load_part a26 [.int .i64 0, .int .i64 (rd : Int), .int .i64 (rs1 : Int), .int .i64 (rs2 : Int), .int .u32 0] (some 97) _ rfl rfl rfl (by rfl) rfl rfl (fun w' hw j u hu => by rw [Nat.zero_add, row_cell hw.1]; simpa [insA] using hu) ?_
  try simp only [Act.put, List.setIfInBounds_toArray, List.set_cons_zero, List.set_cons_succ]
  try simp only [Act.put, List.setIfInBounds_toArray, List.set_cons_zero, List.set_cons_succ]
  refine wpT_eff rfl (by rfl) (fun K hK => ?_)
  go_wp2_with fail
  refine hK _ _ (by exact ⟨by rw [row_drew, row_alloc_past _ _ _ (row_lt r5)]; exact r5, by rw [row_drew, row_alloc_past _ _ _ (row_lt r8)]; exact r8⟩) ?_
  clear hK K
  refine wpT_eff rfl (by rfl) (fun K hK => ?_)
  obtain ⟨V2, hV2⟩ : ∃ V2, V2 = (V.alloc (.cells #[.int .i64 38, .int .i64 39, .int .i64 40, .int .i64 41, .int .i64 42, .int .i64 43, .int .i64 44, .int .i64 45] 3)).drew := ⟨_, rfl⟩
  have q1 : V2.row? (b5) = some (insA 0 rd rs1 rs2 0) := by rw [hV2, row_drew, row_alloc_past _ _ _ (row_lt r5)]; exact r5
  have q8 : V2.row? (b5 + 1) = some (insA 0 0 0 0 0) := by rw [hV2, row_drew, row_alloc_past _ _ _ (row_lt r8)]; exact r8
  have qL : V2.row? V.heap.size = some #[.int .i64 38, .int .i64 39, .int .i64 40, .int .i64 41, .int .i64 42, .int .i64 43, .int .i64 44, .int .i64 45] := by rw [hV2, row_drew]; exact row_alloc_at _ _ _ _ rfl
  have hVC2 : Chg [] w V2 := by rw [hV2]; exact (HVC.out.alloc _).drew
  have hP := pick_any (w := V2) (B := V.heap.size) (c := 8) [38, 39, 40, 41, 42, 43, 44, 45] rfl (fun j u hu => by rw [row_cell qL]; revert hu; match j with | 0 => intro hu; cases hu; rfl | 1 => intro hu; cases hu; rfl | 2 => intro hu; cases hu; rfl | 3 => intro hu; cases hu; rfl | 4 => intro hu; cases hu; rfl | 5 => intro hu; cases hu; rfl | 6 => intro hu; cases hu; rfl | 7 => intro hu; cases hu; rfl | _ + 8 => intro hu; cases hu) f
  obtain ⟨op, hop⟩ : ∃ op, op = ([38, 39, 40, 41, 42, 43, 44, 45] : List Nat).getD f 0 := ⟨_, rfl⟩
  rw [← hop] at hP
  have HOP := Lib.hid hop
  have HP := Lib.hid hP
  clear hop hP
  go_wp2_with fail
  rw [← hV2]
  have HV2 := Lib.hid hVC2
  clear hV2 hVC2
  refine HP.out.mono ?_
  rintro e w' ⟨rfl, rfl⟩
  go_wp2_with fail
  refine hK _ _ ⟨q1, q8⟩ ?_
  clear hK K
  refine wpT_eff rfl (by rfl) (fun K hK => ?_)
  have hO : Calls Tryd.prog 29 #[.int .i64 (op : Int), .agg #[.int .i64 0, .int .i64 (rd : Int), .int .i64 (rs1 : Int), .int .i64 (rs2 : Int), .int .u32 0]] w' fun e w2 => e = .returned (.agg (if op = 0 then insA 0 0 0 0 0 else insA op rd rs1 rs2 0)) ∧ Chg [] w' w2 := of_any op rd rs1 rs2 0 0 w'
  obtain ⟨R, hR⟩ : ∃ R, R = if op = 0 then insA 0 0 0 0 0 else insA op rd rs1 rs2 0 := ⟨_, rfl⟩
  have hRs : R.size = 5 := by rw [hR]; split <;> rfl
  have hRa : allOne R = true := by rw [hR]; split <;> rfl
  rw [← hR] at hO
  have HO := Lib.hid hO
  have HR := Lib.hid hR
  clear hO hR
  go_wp2_with fail
  refine HO.out.mono ?_
  rintro e w2 ⟨rfl, hc2⟩
  have k8 : w2.row? (b5 + 1) = some (insA 0 0 0 0 0) := by rw [hc2.row (row_lt q8) (by simp)]; exact q8
  have k1 : w2.row? (b5) = some (insA 0 rd rs1 rs2 0) := by rw [hc2.row (row_lt q1) (by simp)]; exact q1
  have HC2 : Hid (Chg [] w w2) := Lib.hid (HV2.out.trans hc2)
  clear hc2
  go_wp2_with fail
  refine hK _ _ ⟨k1, k8⟩ ?_
  clear hK K
  refine wpT_brk rfl (by rfl) (fun K hK => ?_)
  go_wp2_with (refine wpList_store_row a26 _ _ rfl rfl rfl rfl rfl k8 rfl hRs hRa ?_)
  refine wpT_end ?_
  go_wp2
  refine bodyPost_ret (ret_cell1 rfl a26 rfl (by rw [row_setRow, if_pos rfl, k8]; rfl) hRs) rfl ?_
  exact ⟨by rw [HRR.out, HR.out, HOP.out], HC2.out.setRow (Or.inr (by have := H5.out; omega)) _⟩
set_option maxHeartbeats 1600000 in
theorem more51s (x rd rs1 rs2 f top : Nat) (hx : x < 4294967296) (hlo : x % 128 = 51) (ht : top = 32) (w : World) : Calls Tryd.prog 31 #[.int .u32 (x : Int), .agg (insA 0 rd rs1 rs2 0), .int .i64 (f : Int), .int .u32 (top : Int)] w fun e w' => e = .returned (.agg (if ([29, 0, 0, 0, 0, 35] : List Nat).getD f 0 = 0 then insA 0 0 0 0 0 else insA (([29, 0, 0, 0, 0, 35] : List Nat).getD f 0) rd rs1 rs2 0)) ∧ Chg [] w w' := by
  have HU : Hid (∀ w : World, Calls Tryd.prog 16 #[.int .u32 (x : Int)] w fun e w' => e = .returned (.int .u32 (immI x : Nat)) ∧ w' = w) := Lib.hid (immI_any x hx)
  have E : bits .and .u32 (x : Int) 127 = ((x % 128 : Nat) : Int) := by
    rw [show ((127 : Int)) = ((127 : Nat) : Int) from rfl, and32 x 127 hx (by decide), show (127 : Nat) = 2 ^ 7 - 1 from rfl, and_low]
  subst ht
  rw [hlo] at E
  have HX := Lib.hid hx
  obtain ⟨iI, hiI⟩ : ∃ y, y = immI x := ⟨_, rfl⟩
  rw [← hiI] at HU
  try rw [← hiI]
  have HII := Lib.hid hiI
  clear hx hlo hiI
  obtain ⟨RR, hRR⟩ : ∃ RR, RR = if ([29, 0, 0, 0, 0, 35] : List Nat).getD f 0 = 0 then insA 0 0 0 0 0 else insA (([29, 0, 0, 0, 0, 35] : List Nat).getD f 0) rd rs1 rs2 0 := ⟨_, rfl⟩
  rw [← hRR]
  have HRR := Lib.hid hRR
  clear hRR
  rw [show insA 0 rd rs1 rs2 0 = #[.int .i64 0, .int .i64 (rd : Int), .int .i64 (rs1 : Int), .int .i64 (rs2 : Int), .int .u32 0] from rfl]
  go_enter Tryd.func31, Tryd.ntmps31
  go_wp2_with fail
  refine wp_region_C (fun w' => w'.cell? ⟨w.heap.size, 1, none⟩ = some (.int .i64 (rd : Int)) ∧ w'.cell? ⟨w.heap.size, 2, none⟩ = some (.int .i64 (rs1 : Int))) [(0, 0), (1, 1), (2, 0), (3, 1), (4, 0), (5, 0), (6, 0), (7, 2), (8, 2)] rfl (by kernel_rfl) ?hSA ?hTA
  case hSA => simp
  refine wpT_pureD (v := ?_) (some 11) rfl rfl (by rfl) (fun w' => ?_) ?_
  rotate_left
  · (go_simp; try with_reducible rfl)
  try simp only [Act.put, List.setIfInBounds_toArray, List.set_cons_zero, List.set_cons_succ]
  refine wpT_readD (v := ?_) (some 12) rfl rfl (by rfl) (fun w' hw => ?_) ?_
  rotate_left
  · (obtain ⟨q0, q1⟩ := hw; go_simp; try with_reducible rfl)
  try simp only [Act.put, List.setIfInBounds_toArray, List.set_cons_zero, List.set_cons_succ]
  refine wpT_pureD (v := ?_) (some 13) rfl rfl (by rfl) (fun w' => ?_) ?_
  rotate_left
  · (go_simp; try with_reducible rfl)
  try simp only [Act.put, List.setIfInBounds_toArray, List.set_cons_zero, List.set_cons_succ]
  refine wpT_readD (v := ?_) (some 14) rfl rfl (by rfl) (fun w' hw => ?_) ?_
  rotate_left
  · (obtain ⟨q0, q1⟩ := hw; go_simp; try with_reducible rfl)
  try simp only [Act.put, List.setIfInBounds_toArray, List.set_cons_zero, List.set_cons_succ]
  refine wpT_pureD (v := ?_) (some 15) rfl rfl (by rfl) (fun w' => ?_) ?_
  rotate_left
  · (go_simp; try with_reducible rfl)
  try simp only [Act.put, List.setIfInBounds_toArray, List.set_cons_zero, List.set_cons_succ]
  refine wpT_call (d := some 16) (f := 16) (args := #[.int .u32 (x : Int)]) (v := .int .u32 (iI : Int)) rfl rfl (by rfl) (fun w' => by first | rfl | go_simp) (fun w' => HU.out w') ?_
  try simp only [Act.put, List.setIfInBounds_toArray, List.set_cons_zero, List.set_cons_succ]
  try simp only [Act.put, List.setIfInBounds_toArray, List.set_cons_zero, List.set_cons_succ]
  refine wpT_pureD (v := ?_) (some 17) rfl rfl (by rfl) (fun w' => ?_) ?_
  rotate_left
  · (go_simp; try with_reducible rfl)
  try simp only [Act.put, List.setIfInBounds_toArray, List.set_cons_zero, List.set_cons_succ]
  refine wpT_eff rfl (by rfl) (fun K hK => ?_)
  go_wp2_with fail
  refine hK _ _ (by go_simp) ?_
  clear hK K
  refine wpT_eff rfl (by rfl) (fun K hK => ?_)
  go_wp2_with fail
  refine hK _ _ (by go_simp) ?_
  clear hK K
  refine wpT_end ?_
  obtain ⟨V, hV⟩ : ∃ V, V = (((w.alloc (.cells #[.int .i64 0, .int .i64 (rd : Int), .int .i64 (rs1 : Int), .int .i64 (rs2 : Int), .int .u32 0] 26)).alloc (.cells #[.int .i64 0, .int .i64 0, .int .i64 0, .int .i64 0, .int .u32 0] 26)).alloc (.cells #[.int .i64 0, .int .i64 (rd : Int), .int .i64 (rs1 : Int), .int .i64 0, .int .u32 (iI : Int)] 26)).drew := ⟨_, rfl⟩
  rw [← hV]
  obtain ⟨b5, h5⟩ : ∃ b, b = w.heap.size := ⟨_, rfl⟩
  have r5 : V.row? b5 = some (insA 0 rd rs1 rs2 0) := by
    rw [hV, row_drew, row_alloc_past _ _ _ (by simp; omega), row_alloc_past _ _ _ (by simp; omega)]; exact row_alloc_at _ _ _ _ h5
  have r8 : V.row? (b5 + 1) = some (insA 0 0 0 0 0) := by
    rw [hV, row_drew, row_alloc_past _ _ _ (by simp; omega)]; exact row_alloc_at _ _ _ _ (by simp; omega)
  have r9 : V.row? (b5 + 1 + 1) = some (insA 0 rd rs1 0 iI) := by
    rw [hV, row_drew]; exact row_alloc_at _ _ _ _ (by simp; omega)
  have hVC : Chg [] w V := by rw [hV]; exact (((((Chg.refl _ _).alloc _).alloc _).alloc _).drew)
  rw [← h5]
  have HVC := Lib.hid hVC
  have H5 := Lib.hid h5
  clear hV hVC h5 HU
  go_wp2_with fail
  refine wp_region_C (fun w' => w'.row? (b5) = some (insA 0 rd rs1 rs2 0) ∧ w'.row? (b5 + 1) = some (insA 0 0 0 0 0)) [(0, 0), (3, 1), (1, 2), (2, 2), (4, 2), (5, 3)] rfl (by kernel_rfl) ?hSB ?hTB
  case hSB => exact ⟨r5, r8⟩
  refine wpT_pureD (v := ?_) (some 101) rfl rfl (by rfl) (fun w' => ?_) ?_
  rotate_left
  · (go_simp; try with_reducible rfl)
  try simp only [Act.put, List.setIfInBounds_toArray, List.set_cons_zero, List.set_cons_succ]
  refine wpT_load_part a26 [.int .i64 0, .int .i64 (rd : Int), .int .i64 (rs1 : Int), .int .i64 (rs2 : Int), .int .u32 0] (some 104) _ rfl rfl rfl (by rfl) rfl rfl (fun w' hw j u hu => by rw [Nat.zero_add, row_cell hw.1]; simpa [insA] using hu) ?_
  try simp only [Act.put, List.setIfInBounds_toArray, List.set_cons_zero, List.set_cons_succ]
  try simp only [Act.put, List.setIfInBounds_toArray, List.set_cons_zero, List.set_cons_succ]
  refine wpT_eff rfl (by rfl) (fun K hK => ?_)
  go_wp2_with fail
  refine hK _ _ (by exact ⟨by rw [row_drew, row_alloc_past _ _ _ (row_lt r5)]; exact r5, by rw [row_drew, row_alloc_past _ _ _ (row_lt r8)]; exact r8⟩) ?_
  clear hK K
  refine wpT_eff rfl (by rfl) (fun K hK => ?_)
  obtain ⟨V2, hV2⟩ : ∃ V2, V2 = (V.alloc (.cells #[.int .i64 29, .int .i64 0, .int .i64 0, .int .i64 0, .int .i64 0, .int .i64 35] 3)).drew := ⟨_, rfl⟩
  have q1 : V2.row? (b5) = some (insA 0 rd rs1 rs2 0) := by rw [hV2, row_drew, row_alloc_past _ _ _ (row_lt r5)]; exact r5
  have q8 : V2.row? (b5 + 1) = some (insA 0 0 0 0 0) := by rw [hV2, row_drew, row_alloc_past _ _ _ (row_lt r8)]; exact r8
  have qL : V2.row? V.heap.size = some #[.int .i64 29, .int .i64 0, .int .i64 0, .int .i64 0, .int .i64 0, .int .i64 35] := by rw [hV2, row_drew]; exact row_alloc_at _ _ _ _ rfl
  have hVC2 : Chg [] w V2 := by rw [hV2]; exact (HVC.out.alloc _).drew
  have hP := pick_any (w := V2) (B := V.heap.size) (c := 6) [29, 0, 0, 0, 0, 35] rfl (fun j u hu => by rw [row_cell qL]; revert hu; match j with | 0 => intro hu; cases hu; rfl | 1 => intro hu; cases hu; rfl | 2 => intro hu; cases hu; rfl | 3 => intro hu; cases hu; rfl | 4 => intro hu; cases hu; rfl | 5 => intro hu; cases hu; rfl | _ + 6 => intro hu; cases hu) f
  obtain ⟨op, hop⟩ : ∃ op, op = ([29, 0, 0, 0, 0, 35] : List Nat).getD f 0 := ⟨_, rfl⟩
  rw [← hop] at hP
  have HOP := Lib.hid hop
  have HP := Lib.hid hP
  clear hop hP
  go_wp2_with fail
  rw [← hV2]
  have HV2 := Lib.hid hVC2
  clear hV2 hVC2
  refine HP.out.mono ?_
  rintro e w' ⟨rfl, rfl⟩
  go_wp2_with fail
  refine hK _ _ ⟨q1, q8⟩ ?_
  clear hK K
  refine wpT_eff rfl (by rfl) (fun K hK => ?_)
  have hO : Calls Tryd.prog 29 #[.int .i64 (op : Int), .agg #[.int .i64 0, .int .i64 (rd : Int), .int .i64 (rs1 : Int), .int .i64 (rs2 : Int), .int .u32 0]] w' fun e w2 => e = .returned (.agg (if op = 0 then insA 0 0 0 0 0 else insA op rd rs1 rs2 0)) ∧ Chg [] w' w2 := of_any op rd rs1 rs2 0 0 w'
  obtain ⟨R, hR⟩ : ∃ R, R = if op = 0 then insA 0 0 0 0 0 else insA op rd rs1 rs2 0 := ⟨_, rfl⟩
  have hRs : R.size = 5 := by rw [hR]; split <;> rfl
  have hRa : allOne R = true := by rw [hR]; split <;> rfl
  rw [← hR] at hO
  have HO := Lib.hid hO
  have HR := Lib.hid hR
  clear hO hR
  go_wp2_with fail
  refine HO.out.mono ?_
  rintro e w2 ⟨rfl, hc2⟩
  have k8 : w2.row? (b5 + 1) = some (insA 0 0 0 0 0) := by rw [hc2.row (row_lt q8) (by simp)]; exact q8
  have k1 : w2.row? (b5) = some (insA 0 rd rs1 rs2 0) := by rw [hc2.row (row_lt q1) (by simp)]; exact q1
  have HC2 : Hid (Chg [] w w2) := Lib.hid (HV2.out.trans hc2)
  clear hc2
  go_wp2_with fail
  refine hK _ _ ⟨k1, k8⟩ ?_
  clear hK K
  refine wpT_brk rfl (by rfl) (fun K hK => ?_)
  go_wp2_with (refine wpList_store_row a26 _ _ rfl rfl rfl rfl rfl k8 rfl hRs hRa ?_)
  refine wpT_end ?_
  go_wp2
  refine bodyPost_ret (ret_cell1 rfl a26 rfl (by rw [row_setRow, if_pos rfl, k8]; rfl) hRs) rfl ?_
  exact ⟨by rw [HRR.out, HR.out, HOP.out], HC2.out.setRow (Or.inr (by have := H5.out; omega)) _⟩
set_option maxHeartbeats 1600000 in
theorem moreNone (x rd rs1 rs2 f top : Nat) (hx : x < 4294967296) (h3 : x % 128 ≠ 3) (h35 : x % 128 ≠ 35) (h19 : x % 128 ≠ 19) (h51 : x % 128 ≠ 51) (h15 : x % 128 ≠ 15) (h115 : x % 128 ≠ 115) (w : World) : Calls Tryd.prog 31 #[.int .u32 (x : Int), .agg (insA 0 rd rs1 rs2 0), .int .i64 (f : Int), .int .u32 (top : Int)] w fun e w' => e = .returned (.agg (insA 0 0 0 0 0)) ∧ Chg [] w w' := by
  have HU : Hid (∀ w : World, Calls Tryd.prog 16 #[.int .u32 (x : Int)] w fun e w' => e = .returned (.int .u32 (immI x : Nat)) ∧ w' = w) := Lib.hid (immI_any x hx)
  have E : bits .and .u32 (x : Int) 127 = ((x % 128 : Nat) : Int) := by
    rw [show ((127 : Int)) = ((127 : Nat) : Int) from rfl, and32 x 127 hx (by decide), show (127 : Nat) = 2 ^ 7 - 1 from rfl, and_low]
  obtain ⟨lo, hlo⟩ : ∃ lo, x % 128 = lo := ⟨_, rfl⟩
  rw [hlo] at h3 h35 h19 h51 h15 h115
  have n3 : ((lo : Int) = 3) = False := by simp; omega
  have m3 : ((lo : Int) == 3) = false := by rw [beq_eq_false_iff_ne]; omega
  have n35 : ((lo : Int) = 35) = False := by simp; omega
  have m35 : ((lo : Int) == 35) = false := by rw [beq_eq_false_iff_ne]; omega
  have n19 : ((lo : Int) = 19) = False := by simp; omega
  have m19 : ((lo : Int) == 19) = false := by rw [beq_eq_false_iff_ne]; omega
  have n51 : ((lo : Int) = 51) = False := by simp; omega
  have m51 : ((lo : Int) == 51) = false := by rw [beq_eq_false_iff_ne]; omega
  have n15 : ((lo : Int) = 15) = False := by simp; omega
  have m15 : ((lo : Int) == 15) = false := by rw [beq_eq_false_iff_ne]; omega
  have n115 : ((lo : Int) = 115) = False := by simp; omega
  have m115 : ((lo : Int) == 115) = false := by rw [beq_eq_false_iff_ne]; omega
  rw [hlo] at E
  have HX := Lib.hid hx
  obtain ⟨iI, hiI⟩ : ∃ y, y = immI x := ⟨_, rfl⟩
  rw [← hiI] at HU
  try rw [← hiI]
  have HII := Lib.hid hiI
  clear hx hlo hiI
  obtain ⟨RR, hRR⟩ : ∃ RR, RR = insA 0 0 0 0 0 := ⟨_, rfl⟩
  rw [← hRR]
  have HRR := Lib.hid hRR
  clear hRR
  rw [show insA 0 rd rs1 rs2 0 = #[.int .i64 0, .int .i64 (rd : Int), .int .i64 (rs1 : Int), .int .i64 (rs2 : Int), .int .u32 0] from rfl]
  go_enter Tryd.func31, Tryd.ntmps31
  go_wp2_with fail
  refine wp_region_C (fun w' => w'.cell? ⟨w.heap.size, 1, none⟩ = some (.int .i64 (rd : Int)) ∧ w'.cell? ⟨w.heap.size, 2, none⟩ = some (.int .i64 (rs1 : Int))) [(0, 0), (1, 1), (2, 0), (3, 1), (4, 0), (5, 0), (6, 0), (7, 2), (8, 2)] rfl (by kernel_rfl) ?hSA ?hTA
  case hSA => simp
  refine wpT_pureD (v := ?_) (some 11) rfl rfl (by rfl) (fun w' => ?_) ?_
  rotate_left
  · (go_simp; try with_reducible rfl)
  try simp only [Act.put, List.setIfInBounds_toArray, List.set_cons_zero, List.set_cons_succ]
  refine wpT_readD (v := ?_) (some 12) rfl rfl (by rfl) (fun w' hw => ?_) ?_
  rotate_left
  · (obtain ⟨q0, q1⟩ := hw; go_simp; try with_reducible rfl)
  try simp only [Act.put, List.setIfInBounds_toArray, List.set_cons_zero, List.set_cons_succ]
  refine wpT_pureD (v := ?_) (some 13) rfl rfl (by rfl) (fun w' => ?_) ?_
  rotate_left
  · (go_simp; try with_reducible rfl)
  try simp only [Act.put, List.setIfInBounds_toArray, List.set_cons_zero, List.set_cons_succ]
  refine wpT_readD (v := ?_) (some 14) rfl rfl (by rfl) (fun w' hw => ?_) ?_
  rotate_left
  · (obtain ⟨q0, q1⟩ := hw; go_simp; try with_reducible rfl)
  try simp only [Act.put, List.setIfInBounds_toArray, List.set_cons_zero, List.set_cons_succ]
  refine wpT_pureD (v := ?_) (some 15) rfl rfl (by rfl) (fun w' => ?_) ?_
  rotate_left
  · (go_simp; try with_reducible rfl)
  try simp only [Act.put, List.setIfInBounds_toArray, List.set_cons_zero, List.set_cons_succ]
  refine wpT_call (d := some 16) (f := 16) (args := #[.int .u32 (x : Int)]) (v := .int .u32 (iI : Int)) rfl rfl (by rfl) (fun w' => by first | rfl | go_simp) (fun w' => HU.out w') ?_
  try simp only [Act.put, List.setIfInBounds_toArray, List.set_cons_zero, List.set_cons_succ]
  try simp only [Act.put, List.setIfInBounds_toArray, List.set_cons_zero, List.set_cons_succ]
  refine wpT_pureD (v := ?_) (some 17) rfl rfl (by rfl) (fun w' => ?_) ?_
  rotate_left
  · (go_simp; try with_reducible rfl)
  try simp only [Act.put, List.setIfInBounds_toArray, List.set_cons_zero, List.set_cons_succ]
  refine wpT_eff rfl (by rfl) (fun K hK => ?_)
  go_wp2_with fail
  refine hK _ _ (by go_simp) ?_
  clear hK K
  refine wpT_eff rfl (by rfl) (fun K hK => ?_)
  go_wp2_with fail
  refine hK _ _ (by go_simp) ?_
  clear hK K
  refine wpT_end ?_
  obtain ⟨V, hV⟩ : ∃ V, V = (((w.alloc (.cells #[.int .i64 0, .int .i64 (rd : Int), .int .i64 (rs1 : Int), .int .i64 (rs2 : Int), .int .u32 0] 26)).alloc (.cells #[.int .i64 0, .int .i64 0, .int .i64 0, .int .i64 0, .int .u32 0] 26)).alloc (.cells #[.int .i64 0, .int .i64 (rd : Int), .int .i64 (rs1 : Int), .int .i64 0, .int .u32 (iI : Int)] 26)).drew := ⟨_, rfl⟩
  rw [← hV]
  obtain ⟨b5, h5⟩ : ∃ b, b = w.heap.size := ⟨_, rfl⟩
  have r5 : V.row? b5 = some (insA 0 rd rs1 rs2 0) := by
    rw [hV, row_drew, row_alloc_past _ _ _ (by simp; omega), row_alloc_past _ _ _ (by simp; omega)]; exact row_alloc_at _ _ _ _ h5
  have r8 : V.row? (b5 + 1) = some (insA 0 0 0 0 0) := by
    rw [hV, row_drew, row_alloc_past _ _ _ (by simp; omega)]; exact row_alloc_at _ _ _ _ (by simp; omega)
  have r9 : V.row? (b5 + 1 + 1) = some (insA 0 rd rs1 0 iI) := by
    rw [hV, row_drew]; exact row_alloc_at _ _ _ _ (by simp; omega)
  have hVC : Chg [] w V := by rw [hV]; exact (((((Chg.refl _ _).alloc _).alloc _).alloc _).drew)
  rw [← h5]
  have HVC := Lib.hid hVC
  have H5 := Lib.hid h5
  clear hV hVC h5 HU
  have r8c := row_cell r8
  go_wp2_with (refine wpList_store_row a26 _ _ rfl rfl rfl rfl rfl r8 rfl rfl rfl ?_)
  refine bodyPost_ret (ret_cell1 rfl a26 rfl (by rw [row_setRow, if_pos rfl, r8]; rfl) rfl) rfl ?_
  exact ⟨by rw [HRR.out]; rfl, HVC.out.setRow (Or.inr (by have := H5.out; omega)) _⟩
set_option maxHeartbeats 1600000 in
theorem more15 (x rd rs1 rs2 f top : Nat) (hx : x < 4294967296) (hlo : x % 128 = 15) (hf : f = 0) (w : World) : Calls Tryd.prog 31 #[.int .u32 (x : Int), .agg (insA 0 rd rs1 rs2 0), .int .i64 (f : Int), .int .u32 (top : Int)] w fun e w' => e = .returned (.agg (insA 46 0 0 0 0)) ∧ Chg [] w w' := by
  have HU : Hid (∀ w : World, Calls Tryd.prog 16 #[.int .u32 (x : Int)] w fun e w' => e = .returned (.int .u32 (immI x : Nat)) ∧ w' = w) := Lib.hid (immI_any x hx)
  have E : bits .and .u32 (x : Int) 127 = ((x % 128 : Nat) : Int) := by
    rw [show ((127 : Int)) = ((127 : Nat) : Int) from rfl, and32 x 127 hx (by decide), show (127 : Nat) = 2 ^ 7 - 1 from rfl, and_low]
  subst hf
  rw [hlo] at E
  have HX := Lib.hid hx
  obtain ⟨iI, hiI⟩ : ∃ y, y = immI x := ⟨_, rfl⟩
  rw [← hiI] at HU
  try rw [← hiI]
  have HII := Lib.hid hiI
  clear hx hlo hiI
  obtain ⟨RR, hRR⟩ : ∃ RR, RR = insA 46 0 0 0 0 := ⟨_, rfl⟩
  rw [← hRR]
  have HRR := Lib.hid hRR
  clear hRR
  rw [show insA 0 rd rs1 rs2 0 = #[.int .i64 0, .int .i64 (rd : Int), .int .i64 (rs1 : Int), .int .i64 (rs2 : Int), .int .u32 0] from rfl]
  go_enter Tryd.func31, Tryd.ntmps31
  go_wp2_with fail
  refine wp_region_C (fun w' => w'.cell? ⟨w.heap.size, 1, none⟩ = some (.int .i64 (rd : Int)) ∧ w'.cell? ⟨w.heap.size, 2, none⟩ = some (.int .i64 (rs1 : Int))) [(0, 0), (1, 1), (2, 0), (3, 1), (4, 0), (5, 0), (6, 0), (7, 2), (8, 2)] rfl (by kernel_rfl) ?hSA ?hTA
  case hSA => simp
  refine wpT_pureD (v := ?_) (some 11) rfl rfl (by rfl) (fun w' => ?_) ?_
  rotate_left
  · (go_simp; try with_reducible rfl)
  try simp only [Act.put, List.setIfInBounds_toArray, List.set_cons_zero, List.set_cons_succ]
  refine wpT_readD (v := ?_) (some 12) rfl rfl (by rfl) (fun w' hw => ?_) ?_
  rotate_left
  · (obtain ⟨q0, q1⟩ := hw; go_simp; try with_reducible rfl)
  try simp only [Act.put, List.setIfInBounds_toArray, List.set_cons_zero, List.set_cons_succ]
  refine wpT_pureD (v := ?_) (some 13) rfl rfl (by rfl) (fun w' => ?_) ?_
  rotate_left
  · (go_simp; try with_reducible rfl)
  try simp only [Act.put, List.setIfInBounds_toArray, List.set_cons_zero, List.set_cons_succ]
  refine wpT_readD (v := ?_) (some 14) rfl rfl (by rfl) (fun w' hw => ?_) ?_
  rotate_left
  · (obtain ⟨q0, q1⟩ := hw; go_simp; try with_reducible rfl)
  try simp only [Act.put, List.setIfInBounds_toArray, List.set_cons_zero, List.set_cons_succ]
  refine wpT_pureD (v := ?_) (some 15) rfl rfl (by rfl) (fun w' => ?_) ?_
  rotate_left
  · (go_simp; try with_reducible rfl)
  try simp only [Act.put, List.setIfInBounds_toArray, List.set_cons_zero, List.set_cons_succ]
  refine wpT_call (d := some 16) (f := 16) (args := #[.int .u32 (x : Int)]) (v := .int .u32 (iI : Int)) rfl rfl (by rfl) (fun w' => by first | rfl | go_simp) (fun w' => HU.out w') ?_
  try simp only [Act.put, List.setIfInBounds_toArray, List.set_cons_zero, List.set_cons_succ]
  try simp only [Act.put, List.setIfInBounds_toArray, List.set_cons_zero, List.set_cons_succ]
  refine wpT_pureD (v := ?_) (some 17) rfl rfl (by rfl) (fun w' => ?_) ?_
  rotate_left
  · (go_simp; try with_reducible rfl)
  try simp only [Act.put, List.setIfInBounds_toArray, List.set_cons_zero, List.set_cons_succ]
  refine wpT_eff rfl (by rfl) (fun K hK => ?_)
  go_wp2_with fail
  refine hK _ _ (by go_simp) ?_
  clear hK K
  refine wpT_eff rfl (by rfl) (fun K hK => ?_)
  go_wp2_with fail
  refine hK _ _ (by go_simp) ?_
  clear hK K
  refine wpT_end ?_
  obtain ⟨V, hV⟩ : ∃ V, V = (((w.alloc (.cells #[.int .i64 0, .int .i64 (rd : Int), .int .i64 (rs1 : Int), .int .i64 (rs2 : Int), .int .u32 0] 26)).alloc (.cells #[.int .i64 0, .int .i64 0, .int .i64 0, .int .i64 0, .int .u32 0] 26)).alloc (.cells #[.int .i64 0, .int .i64 (rd : Int), .int .i64 (rs1 : Int), .int .i64 0, .int .u32 (iI : Int)] 26)).drew := ⟨_, rfl⟩
  rw [← hV]
  obtain ⟨b5, h5⟩ : ∃ b, b = w.heap.size := ⟨_, rfl⟩
  have r5 : V.row? b5 = some (insA 0 rd rs1 rs2 0) := by
    rw [hV, row_drew, row_alloc_past _ _ _ (by simp; omega), row_alloc_past _ _ _ (by simp; omega)]; exact row_alloc_at _ _ _ _ h5
  have r8 : V.row? (b5 + 1) = some (insA 0 0 0 0 0) := by
    rw [hV, row_drew, row_alloc_past _ _ _ (by simp; omega)]; exact row_alloc_at _ _ _ _ (by simp; omega)
  have r9 : V.row? (b5 + 1 + 1) = some (insA 0 rd rs1 0 iI) := by
    rw [hV, row_drew]; exact row_alloc_at _ _ _ _ (by simp; omega)
  have hVC : Chg [] w V := by rw [hV]; exact (((((Chg.refl _ _).alloc _).alloc _).alloc _).drew)
  rw [← h5]
  have HVC := Lib.hid hVC
  have H5 := Lib.hid h5
  clear hV hVC h5 HU
  have r8c := row_cell r8
  go_wp2_with (refine wpList_store_row a26 _ _ rfl rfl rfl rfl rfl r8 rfl rfl rfl ?_)
  refine bodyPost_ret (ret_cell1 rfl a26 rfl (by rw [row_setRow, if_pos rfl, r8]; rfl) rfl) rfl ?_
  exact ⟨by rw [HRR.out]; rfl, HVC.out.setRow (Or.inr (by have := H5.out; omega)) _⟩
set_option maxHeartbeats 1600000 in
theorem more15n (x rd rs1 rs2 f top : Nat) (hx : x < 4294967296) (hlo : x % 128 = 15) (hf : f ≠ 0) (w : World) : Calls Tryd.prog 31 #[.int .u32 (x : Int), .agg (insA 0 rd rs1 rs2 0), .int .i64 (f : Int), .int .u32 (top : Int)] w fun e w' => e = .returned (.agg (insA 0 0 0 0 0)) ∧ Chg [] w w' := by
  have HU : Hid (∀ w : World, Calls Tryd.prog 16 #[.int .u32 (x : Int)] w fun e w' => e = .returned (.int .u32 (immI x : Nat)) ∧ w' = w) := Lib.hid (immI_any x hx)
  have E : bits .and .u32 (x : Int) 127 = ((x % 128 : Nat) : Int) := by
    rw [show ((127 : Int)) = ((127 : Nat) : Int) from rfl, and32 x 127 hx (by decide), show (127 : Nat) = 2 ^ 7 - 1 from rfl, and_low]
  have n0 : ((f : Int) == 0) = false := by rw [beq_eq_false_iff_ne]; omega
  have m0 : ((f : Int) = 0) = False := by simp; omega
  rw [hlo] at E
  have HX := Lib.hid hx
  obtain ⟨iI, hiI⟩ : ∃ y, y = immI x := ⟨_, rfl⟩
  rw [← hiI] at HU
  try rw [← hiI]
  have HII := Lib.hid hiI
  clear hx hlo hiI
  obtain ⟨RR, hRR⟩ : ∃ RR, RR = insA 0 0 0 0 0 := ⟨_, rfl⟩
  rw [← hRR]
  have HRR := Lib.hid hRR
  clear hRR
  rw [show insA 0 rd rs1 rs2 0 = #[.int .i64 0, .int .i64 (rd : Int), .int .i64 (rs1 : Int), .int .i64 (rs2 : Int), .int .u32 0] from rfl]
  go_enter Tryd.func31, Tryd.ntmps31
  go_wp2_with fail
  refine wp_region_C (fun w' => w'.cell? ⟨w.heap.size, 1, none⟩ = some (.int .i64 (rd : Int)) ∧ w'.cell? ⟨w.heap.size, 2, none⟩ = some (.int .i64 (rs1 : Int))) [(0, 0), (1, 1), (2, 0), (3, 1), (4, 0), (5, 0), (6, 0), (7, 2), (8, 2)] rfl (by kernel_rfl) ?hSA ?hTA
  case hSA => simp
  refine wpT_pureD (v := ?_) (some 11) rfl rfl (by rfl) (fun w' => ?_) ?_
  rotate_left
  · (go_simp; try with_reducible rfl)
  try simp only [Act.put, List.setIfInBounds_toArray, List.set_cons_zero, List.set_cons_succ]
  refine wpT_readD (v := ?_) (some 12) rfl rfl (by rfl) (fun w' hw => ?_) ?_
  rotate_left
  · (obtain ⟨q0, q1⟩ := hw; go_simp; try with_reducible rfl)
  try simp only [Act.put, List.setIfInBounds_toArray, List.set_cons_zero, List.set_cons_succ]
  refine wpT_pureD (v := ?_) (some 13) rfl rfl (by rfl) (fun w' => ?_) ?_
  rotate_left
  · (go_simp; try with_reducible rfl)
  try simp only [Act.put, List.setIfInBounds_toArray, List.set_cons_zero, List.set_cons_succ]
  refine wpT_readD (v := ?_) (some 14) rfl rfl (by rfl) (fun w' hw => ?_) ?_
  rotate_left
  · (obtain ⟨q0, q1⟩ := hw; go_simp; try with_reducible rfl)
  try simp only [Act.put, List.setIfInBounds_toArray, List.set_cons_zero, List.set_cons_succ]
  refine wpT_pureD (v := ?_) (some 15) rfl rfl (by rfl) (fun w' => ?_) ?_
  rotate_left
  · (go_simp; try with_reducible rfl)
  try simp only [Act.put, List.setIfInBounds_toArray, List.set_cons_zero, List.set_cons_succ]
  refine wpT_call (d := some 16) (f := 16) (args := #[.int .u32 (x : Int)]) (v := .int .u32 (iI : Int)) rfl rfl (by rfl) (fun w' => by first | rfl | go_simp) (fun w' => HU.out w') ?_
  try simp only [Act.put, List.setIfInBounds_toArray, List.set_cons_zero, List.set_cons_succ]
  try simp only [Act.put, List.setIfInBounds_toArray, List.set_cons_zero, List.set_cons_succ]
  refine wpT_pureD (v := ?_) (some 17) rfl rfl (by rfl) (fun w' => ?_) ?_
  rotate_left
  · (go_simp; try with_reducible rfl)
  try simp only [Act.put, List.setIfInBounds_toArray, List.set_cons_zero, List.set_cons_succ]
  refine wpT_eff rfl (by rfl) (fun K hK => ?_)
  go_wp2_with fail
  refine hK _ _ (by go_simp) ?_
  clear hK K
  refine wpT_eff rfl (by rfl) (fun K hK => ?_)
  go_wp2_with fail
  refine hK _ _ (by go_simp) ?_
  clear hK K
  refine wpT_end ?_
  obtain ⟨V, hV⟩ : ∃ V, V = (((w.alloc (.cells #[.int .i64 0, .int .i64 (rd : Int), .int .i64 (rs1 : Int), .int .i64 (rs2 : Int), .int .u32 0] 26)).alloc (.cells #[.int .i64 0, .int .i64 0, .int .i64 0, .int .i64 0, .int .u32 0] 26)).alloc (.cells #[.int .i64 0, .int .i64 (rd : Int), .int .i64 (rs1 : Int), .int .i64 0, .int .u32 (iI : Int)] 26)).drew := ⟨_, rfl⟩
  rw [← hV]
  obtain ⟨b5, h5⟩ : ∃ b, b = w.heap.size := ⟨_, rfl⟩
  have r5 : V.row? b5 = some (insA 0 rd rs1 rs2 0) := by
    rw [hV, row_drew, row_alloc_past _ _ _ (by simp; omega), row_alloc_past _ _ _ (by simp; omega)]; exact row_alloc_at _ _ _ _ h5
  have r8 : V.row? (b5 + 1) = some (insA 0 0 0 0 0) := by
    rw [hV, row_drew, row_alloc_past _ _ _ (by simp; omega)]; exact row_alloc_at _ _ _ _ (by simp; omega)
  have r9 : V.row? (b5 + 1 + 1) = some (insA 0 rd rs1 0 iI) := by
    rw [hV, row_drew]; exact row_alloc_at _ _ _ _ (by simp; omega)
  have hVC : Chg [] w V := by rw [hV]; exact (((((Chg.refl _ _).alloc _).alloc _).alloc _).drew)
  rw [← h5]
  have HVC := Lib.hid hVC
  have H5 := Lib.hid h5
  clear hV hVC h5 HU
  have r8c := row_cell r8
  go_wp2_with (refine wpList_store_row a26 _ _ rfl rfl rfl rfl rfl r8 rfl rfl rfl ?_)
  refine bodyPost_ret (ret_cell1 rfl a26 rfl (by rw [row_setRow, if_pos rfl, r8]; rfl) rfl) rfl ?_
  exact ⟨by rw [HRR.out]; rfl, HVC.out.setRow (Or.inr (by have := H5.out; omega)) _⟩
end Go.Proofs.L
