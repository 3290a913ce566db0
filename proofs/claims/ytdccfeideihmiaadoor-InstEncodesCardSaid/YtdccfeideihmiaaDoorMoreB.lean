/- Proved here: lemmas and contracts (MoreB) for the laws of this seat, for all values of the stated types; no further condition. -/
import Derived.Test.YtdccfeideihmiaaDoorParts
open Go Go.RowKit Go.Lib
namespace Go.Proofs.L
set_option maxHeartbeats 1600000 in
theorem more35 (x rd rs1 rs2 f top : Nat) (hx : x < 4294967296) (hlo : x % 128 = 35) (w : World) : Calls Tryd.prog 31 #[.int .u32 (x : Int), .agg (insA 0 rd rs1 rs2 0), .int .i64 (f : Int), .int .u32 (top : Int)] w fun e w' => e = .returned (.agg (if ([16, 17, 18] : List Nat).getD f 0 = 0 then insA 0 0 0 0 0 else insA (([16, 17, 18] : List Nat).getD f 0) 0 rs1 rs2 (immS x))) ∧ Chg [] w w' := by
  have HU : Hid (∀ w : World, Calls Tryd.prog 16 #[.int .u32 (x : Int)] w fun e w' => e = .returned (.int .u32 (immI x : Nat)) ∧ w' = w) := Lib.hid (immI_any x hx)
  have E : bits .and .u32 (x : Int) 127 = ((x % 128 : Nat) : Int) := by
    rw [show ((127 : Int)) = ((127 : Nat) : Int) from rfl, and32 x 127 hx (by decide), show (127 : Nat) = 2 ^ 7 - 1 from rfl, and_low]
  rw [hlo] at E
  have HX := Lib.hid hx
  obtain ⟨iI, hiI⟩ : ∃ y, y = immI x := ⟨_, rfl⟩
  rw [← hiI] at HU
  try rw [← hiI]
  have HII := Lib.hid hiI
  clear hx hlo hiI
  obtain ⟨RR, hRR⟩ : ∃ RR, RR = if ([16, 17, 18] : List Nat).getD f 0 = 0 then insA 0 0 0 0 0 else insA (([16, 17, 18] : List Nat).getD f 0) 0 rs1 rs2 (immS x) := ⟨_, rfl⟩
  rw [← hRR]
  have HRR := Lib.hid hRR
  clear hRR
  rw [show insA 0 rd rs1 rs2 0 = #[.int .i64 0, .int .i64 (rd : Int), .int .i64 (rs1 : Int), .int .i64 (rs2 : Int), .int .u32 0] from rfl]
  go_enter Tryd.func31, Tryd.ntmps31
  go_wp2_with fail
  refine wp_region_C (fun w' => w'.cell? ⟨w.heap.size, 1, none⟩ = some (.int .i64 (rd : Int)) ∧ w'.cell? ⟨w.heap.size, 2, none⟩ = some (.int .i64 (rs1 : Int))) [(0, 0), (1, 1), (2, 0), (3, 1), (4, 0), (5, 0), (6, 0), (7, 2), (8, 2)] rfl (by kernel_rfl) ?hSA ?hTA
  case hSA => simp
  refine wpT_pureD (v := ?_) (some 11) rfl rfl (by rfl) (fun w' => ?_) ?_
  rotate_left
  · (go_simp; try with_reducible rfl)
  try simp only [Act.put, List.setIfInBounds_toArray, List.set_cons_zero, List.set_cons_succ]
  refine wpT_readD (v := ?_) (some 12) rfl rfl (by rfl) (fun w' hw => ?_) ?_
  rotate_left
  · (obtain ⟨q0, q1⟩ := hw; go_simp; try with_reducible rfl)
  try simp only [Act.put, List.setIfInBounds_toArray, List.set_cons_zero, List.set_cons_succ]
  refine wpT_pureD (v := ?_) (some 13) rfl rfl (by rfl) (fun w' => ?_) ?_
  rotate_left
  · (go_simp; try with_reducible rfl)
  try simp only [Act.put, List.setIfInBounds_toArray, List.set_cons_zero, List.set_cons_succ]
  refine wpT_readD (v := ?_) (some 14) rfl rfl (by rfl) (fun w' hw => ?_) ?_
  rotate_left
  · (obtain ⟨q0, q1⟩ := hw; go_simp; try with_reducible rfl)
  try simp only [Act.put, List.setIfInBounds_toArray, List.set_cons_zero, List.set_cons_succ]
  refine wpT_pureD (v := ?_) (some 15) rfl rfl (by rfl) (fun w' => ?_) ?_
  rotate_left
  · (go_simp; try with_reducible rfl)
  try simp only [Act.put, List.setIfInBounds_toArray, List.set_cons_zero, List.set_cons_succ]
  refine wpT_call (d := some 16) (f := 16) (args := #[.int .u32 (x : Int)]) (v := .int .u32 (iI : Int)) rfl rfl (by rfl) (fun w' => by first | rfl | go_simp) (fun w' => HU.out w') ?_
  try simp only [Act.put, List.setIfInBounds_toArray, List.set_cons_zero, List.set_cons_succ]
  try simp only [Act.put, List.setIfInBounds_toArray, List.set_cons_zero, List.set_cons_succ]
  refine wpT_pureD (v := ?_) (some 17) rfl rfl (by rfl) (fun w' => ?_) ?_
  rotate_left
  · (go_simp; try with_reducible rfl)
  try simp only [Act.put, List.setIfInBounds_toArray, List.set_cons_zero, List.set_cons_succ]
  refine wpT_eff rfl (by rfl) (fun K hK => ?_)
  go_wp2_with fail
  refine hK _ _ (by go_simp) ?_
  clear hK K
  refine wpT_eff rfl (by rfl) (fun K hK => ?_)
  go_wp2_with fail
  refine hK _ _ (by go_simp) ?_
  clear hK K
  refine wpT_end ?_
  obtain ⟨V, hV⟩ : ∃ V, V = (((w.alloc (.cells #[.int .i64 0, .int .i64 (rd : Int), .int .i64 (rs1 : Int), .int .i64 (rs2 : Int), .int .u32 0] 26)).alloc (.cells #[.int .i64 0, .int .i64 0, .int .i64 0, .int .i64 0, .int .u32 0] 26)).alloc (.cells #[.int .i64 0, .int .i64 (rd : Int), .int .i64 (rs1 : Int), .int .i64 0, .int .u32 (iI : Int)] 26)).drew := ⟨_, rfl⟩
  rw [← hV]
  obtain ⟨b5, h5⟩ : ∃ b, b = w.heap.size := ⟨_, rfl⟩
  have r5 : V.row? b5 = some (insA 0 rd rs1 rs2 0) := by
    rw [hV, row_drew, row_alloc_past _ _ _ (by simp; omega), row_alloc_past _ _ _ (by simp; omega)]; exact row_alloc_at _ _ _ _ h5
  have r8 : V.row? (b5 + 1) = some (insA 0 0 0 0 0) := by
    rw [hV, row_drew, row_alloc_past _ _ _ (by simp; omega)]; exact row_alloc_at _ _ _ _ (by simp; omega)
  have r9 : V.row? (b5 + 1 + 1) = some (insA 0 rd rs1 0 iI) := by
    rw [hV, row_drew]; exact row_alloc_at _ _ _ _ (by simp; omega)
  have hVC : Chg [] w V := by rw [hV]; exact (((((Chg.refl _ _).alloc _).alloc _).alloc _).drew)
  rw [← h5]
  have HVC := Lib.hid hVC
  have H5 := Lib.hid h5
  clear hV hVC h5 HU
  have rx := r5
  obtain ⟨iS, hiS⟩ : ∃ y, y = immS x := ⟨_, rfl⟩
  have hS := immS_any x HX.out
  rw [← hiS] at hS
  have HS := Lib.hid hS
  have HIS := Lib.hid hiS
  clear hS hiS
  have s1 : V.cell? ⟨b5, 2, none⟩ = some (.int .i64 (rs1 : Int)) := by rw [row_cell rx]; rfl
  have s2 : V.cell? ⟨b5, 3, none⟩ = some (.int .i64 (rs2 : Int)) := by rw [row_cell rx]; rfl
  go_wp2_with fail
  refine wp_region_C (fun w' => w'.cell? ⟨b5, 2, none⟩ = some (.int .i64 (rs1 : Int)) ∧ w'.cell? ⟨b5, 3, none⟩ = some (.int .i64 (rs2 : Int)) ∧ w'.row? (b5 + 1) = some (insA 0 0 0 0 0)) [(0, 0), (3, 0), (4, 1), (5, 0), (6, 1), (7, 0), (1, 2), (2, 2), (8, 0), (9, 0), (10, 2), (11, 3)] rfl (by kernel_rfl) ?hSB ?hTB
  case hSB => exact ⟨s1, s2, r8⟩
  refine wpT_pureD (v := ?_) (some 29) rfl rfl (by rfl) (fun w' => ?_) ?_
  rotate_left
  · (go_simp; try with_reducible rfl)
  try simp only [Act.put, List.setIfInBounds_toArray, List.set_cons_zero, List.set_cons_succ]
  refine wpT_pureD (v := ?_) (some 32) rfl rfl (by rfl) (fun w' => ?_) ?_
  rotate_left
  · (go_simp; try with_reducible rfl)
  try simp only [Act.put, List.setIfInBounds_toArray, List.set_cons_zero, List.set_cons_succ]
  refine wpT_readD (v := ?_) (some 33) rfl rfl (by rfl) (fun w' hw => ?_) ?_
  rotate_left
  · (obtain ⟨q0, q1, q2⟩ := hw; go_simp; try with_reducible rfl)
  try simp only [Act.put, List.setIfInBounds_toArray, List.set_cons_zero, List.set_cons_succ]
  refine wpT_pureD (v := ?_) (some 34) rfl rfl (by rfl) (fun w' => ?_) ?_
  rotate_left
  · (go_simp; try with_reducible rfl)
  try simp only [Act.put, List.setIfInBounds_toArray, List.set_cons_zero, List.set_cons_succ]
  refine wpT_readD (v := ?_) (some 35) rfl rfl (by rfl) (fun w' hw => ?_) ?_
  rotate_left
  · (obtain ⟨q0, q1, q2⟩ := hw; go_simp; try with_reducible rfl)
  try simp only [Act.put, List.setIfInBounds_toArray, List.set_cons_zero, List.set_cons_succ]
  refine wpT_pureD (v := ?_) (some 36) rfl rfl (by rfl) (fun w' => ?_) ?_
  rotate_left
  · (go_simp; try with_reducible rfl)
  try simp only [Act.put, List.setIfInBounds_toArray, List.set_cons_zero, List.set_cons_succ]
  refine wpT_eff rfl (by rfl) (fun K hK => ?_)
  obtain ⟨V2, hV2⟩ : ∃ V2, V2 = (V.alloc (.cells #[.int .i64 16, .int .i64 17, .int .i64 18] 3)).drew := ⟨_, rfl⟩
  have qx : V2.row? (b5) = V.row? (b5) := by rw [hV2, row_drew, row_alloc_past _ _ _ (row_lt rx)]
  have q8 : V2.row? (b5 + 1) = some (insA 0 0 0 0 0) := by rw [hV2, row_drew, row_alloc_past _ _ _ (row_lt r8)]; exact r8
  have qL : V2.row? V.heap.size = some #[.int .i64 16, .int .i64 17, .int .i64 18] := by rw [hV2, row_drew]; exact row_alloc_at _ _ _ _ rfl
  rw [rx] at qx
  have t1 : V2.cell? ⟨b5, 2, none⟩ = some (.int .i64 (rs1 : Int)) := by rw [row_cell qx]; rfl
  have t2 : V2.cell? ⟨b5, 3, none⟩ = some (.int .i64 (rs2 : Int)) := by rw [row_cell qx]; rfl
  have hVC2 : Chg [] w V2 := by rw [hV2]; exact (HVC.out.alloc _).drew
  go_wp2_with fail
  rw [← hV2]
  have HV2 := Lib.hid hVC2
  clear hV2 hVC2
  refine hK _ _ ⟨t1, t2, q8⟩ ?_
  clear hK K
  refine wpT_eff rfl (by rfl) (fun K hK => ?_)
  have hP := pick_any (w := V2) (B := V.heap.size) (c := 3) [16, 17, 18] rfl (fun j u hu => by rw [row_cell qL]; revert hu; match j with | 0 => intro hu; cases hu; rfl | 1 => intro hu; cases hu; rfl | 2 => intro hu; cases hu; rfl | _ + 3 => intro hu; cases hu) f
  obtain ⟨op, hop⟩ : ∃ op, op = ([16, 17, 18] : List Nat).getD f 0 := ⟨_, rfl⟩
  rw [← hop] at hP
  have HOP := Lib.hid hop
  have HP := Lib.hid hP
  clear hop hP
  go_wp2_with fail
  refine HP.out.mono ?_
  rintro e w' ⟨rfl, rfl⟩
  go_wp2_with fail
  refine hK _ _ ⟨t1, t2, q8⟩ ?_
  clear hK K
  refine wpT_call (d := some 37) (f := 17) (args := #[.int .u32 (x : Int)]) (v := .int .u32 (iS : Int)) rfl rfl (by rfl) (fun w' => by first | rfl | go_simp) (fun w' => HS.out w') ?_
  try simp only [Act.put, List.setIfInBounds_toArray, List.set_cons_zero, List.set_cons_succ]
  try simp only [Act.put, List.setIfInBounds_toArray, List.set_cons_zero, List.set_cons_succ]
  refine wpT_pureD (v := ?_) (some 38) rfl rfl (by rfl) (fun w' => ?_) ?_
  rotate_left
  · (go_simp; try with_reducible rfl)
  try simp only [Act.put, List.setIfInBounds_toArray, List.set_cons_zero, List.set_cons_succ]
  refine wpT_eff rfl (by rfl) (fun K hK => ?_)
  have hO : Calls Tryd.prog 29 #[.int .i64 (op : Int), .agg #[.int .i64 0, .int .i64 0, .int .i64 (rs1 : Int), .int .i64 (rs2 : Int), .int .u32 (iS : Int)]] w' fun e w2 => e = .returned (.agg (if op = 0 then insA 0 0 0 0 0 else insA op 0 rs1 rs2 iS)) ∧ Chg [] w' w2 := of_any op 0 rs1 rs2 iS 0 w'
  obtain ⟨R, hR⟩ : ∃ R, R = if op = 0 then insA 0 0 0 0 0 else insA op 0 rs1 rs2 iS := ⟨_, rfl⟩
  have hRs : R.size = 5 := by rw [hR]; split <;> rfl
  have hRa : allOne R = true := by rw [hR]; split <;> rfl
  rw [← hR] at hO
  have HO := Lib.hid hO
  have HR := Lib.hid hR
  clear hO hR
  go_wp2_with fail
  refine HO.out.mono ?_
  rintro e w2 ⟨rfl, hc2⟩
  have k8 : w2.row? (b5 + 1) = some (insA 0 0 0 0 0) := by rw [hc2.row (row_lt q8) (by simp)]; exact q8
  have kx := hc2.row (row_lt qx) (by simp)
  rw [qx] at kx
  have k1 : w2.cell? ⟨b5, 2, none⟩ = some (.int .i64 (rs1 : Int)) := by rw [row_cell kx]; rfl
  have k2 : w2.cell? ⟨b5, 3, none⟩ = some (.int .i64 (rs2 : Int)) := by rw [row_cell kx]; rfl
  have HC2 : Hid (Chg [] w w2) := Lib.hid (HV2.out.trans hc2)
  clear hc2
  go_wp2_with fail
  refine hK _ _ ⟨k1, k2, k8⟩ ?_
  clear hK K
  refine wpT_brk rfl (by rfl) (fun K hK => ?_)
  go_wp2_with (refine wpList_store_row a26 _ _ rfl rfl rfl rfl rfl k8 rfl hRs hRa ?_)
  refine wpT_end ?_
  go_wp2
  refine bodyPost_ret (ret_cell1 rfl a26 rfl (by rw [row_setRow, if_pos rfl, k8]; rfl) hRs) rfl ?_
  exact ⟨by rw [HRR.out, HR.out, HOP.out, HIS.out], HC2.out.setRow (Or.inr (by have := H5.out; omega)) _⟩
set_option maxHeartbeats 1600000 in
theorem more19l (x rd rs1 rs2 f top : Nat) (hx : x < 4294967296) (hrs2 : rs2 < 32) (hlo : x % 128 = 19) (hf : f = 1) (ht : top = 0) (w : World) : Calls Tryd.prog 31 #[.int .u32 (x : Int), .agg (insA 0 rd rs1 rs2 0), .int .i64 (f : Int), .int .u32 (top : Int)] w fun e w' => e = .returned (.agg (insA 25 rd rs1 0 rs2)) ∧ Chg [] w w' := by
  have HU : Hid (∀ w : World, Calls Tryd.prog 16 #[.int .u32 (x : Int)] w fun e w' => e = .returned (.int .u32 (immI x : Nat)) ∧ w' = w) := Lib.hid (immI_any x hx)
  have E : bits .and .u32 (x : Int) 127 = ((x % 128 : Nat) : Int) := by
    rw [show ((127 : Int)) = ((127 : Nat) : Int) from rfl, and32 x 127 hx (by decide), show (127 : Nat) = 2 ^ 7 - 1 from rfl, and_low]
  subst hf
  subst ht
  rw [hlo] at E
  have HX := Lib.hid hx
  obtain ⟨iI, hiI⟩ : ∃ y, y = immI x := ⟨_, rfl⟩
  rw [← hiI] at HU
  try rw [← hiI]
  have HII := Lib.hid hiI
  clear hx hlo hiI
  obtain ⟨RR, hRR⟩ : ∃ RR, RR = insA 25 rd rs1 0 rs2 := ⟨_, rfl⟩
  rw [← hRR]
  have HRR := Lib.hid hRR
  clear hRR
  rw [show insA 0 rd rs1 rs2 0 = #[.int .i64 0, .int .i64 (rd : Int), .int .i64 (rs1 : Int), .int .i64 (rs2 : Int), .int .u32 0] from rfl]
  go_enter Tryd.func31, Tryd.ntmps31
  go_wp2_with fail
  refine wp_region_C (fun w' => w'.cell? ⟨w.heap.size, 1, none⟩ = some (.int .i64 (rd : Int)) ∧ w'.cell? ⟨w.heap.size, 2, none⟩ = some (.int .i64 (rs1 : Int))) [(0, 0), (1, 1), (2, 0), (3, 1), (4, 0), (5, 0), (6, 0), (7, 2), (8, 2)] rfl (by kernel_rfl) ?hSA ?hTA
  case hSA => simp
  refine wpT_pureD (v := ?_) (some 11) rfl rfl (by rfl) (fun w' => ?_) ?_
  rotate_left
  · (go_simp; try with_reducible rfl)
  try simp only [Act.put, List.setIfInBounds_toArray, List.set_cons_zero, List.set_cons_succ]
  refine wpT_readD (v := ?_) (some 12) rfl rfl (by rfl) (fun w' hw => ?_) ?_
  rotate_left
  · (obtain ⟨q0, q1⟩ := hw; go_simp; try with_reducible rfl)
  try simp only [Act.put, List.setIfInBounds_toArray, List.set_cons_zero, List.set_cons_succ]
  refine wpT_pureD (v := ?_) (some 13) rfl rfl (by rfl) (fun w' => ?_) ?_
  rotate_left
  · (go_simp; try with_reducible rfl)
  try simp only [Act.put, List.setIfInBounds_toArray, List.set_cons_zero, List.set_cons_succ]
  refine wpT_readD (v := ?_) (some 14) rfl rfl (by rfl) (fun w' hw => ?_) ?_
  rotate_left
  · (obtain ⟨q0, q1⟩ := hw; go_simp; try with_reducible rfl)
  try simp only [Act.put, List.setIfInBounds_toArray, List.set_cons_zero, List.set_cons_succ]
  refine wpT_pureD (v := ?_) (some 15) rfl rfl (by rfl) (fun w' => ?_) ?_
  rotate_left
  · (go_simp; try with_reducible rfl)
  try simp only [Act.put, List.setIfInBounds_toArray, List.set_cons_zero, List.set_cons_succ]
  refine wpT_call (d := some 16) (f := 16) (args := #[.int .u32 (x : Int)]) (v := .int .u32 (iI : Int)) rfl rfl (by rfl) (fun w' => by first | rfl | go_simp) (fun w' => HU.out w') ?_
  try simp only [Act.put, List.setIfInBounds_toArray, List.set_cons_zero, List.set_cons_succ]
  try simp only [Act.put, List.setIfInBounds_toArray, List.set_cons_zero, List.set_cons_succ]
  refine wpT_pureD (v := ?_) (some 17) rfl rfl (by rfl) (fun w' => ?_) ?_
  rotate_left
  · (go_simp; try with_reducible rfl)
  try simp only [Act.put, List.setIfInBounds_toArray, List.set_cons_zero, List.set_cons_succ]
  refine wpT_eff rfl (by rfl) (fun K hK => ?_)
  go_wp2_with fail
  refine hK _ _ (by go_simp) ?_
  clear hK K
  refine wpT_eff rfl (by rfl) (fun K hK => ?_)
  go_wp2_with fail
  refine hK _ _ (by go_simp) ?_
  clear hK K
  refine wpT_end ?_
  obtain ⟨V, hV⟩ : ∃ V, V = (((w.alloc (.cells #[.int .i64 0, .int .i64 (rd : Int), .int .i64 (rs1 : Int), .int .i64 (rs2 : Int), .int .u32 0] 26)).alloc (.cells #[.int .i64 0, .int .i64 0, .int .i64 0, .int .i64 0, .int .u32 0] 26)).alloc (.cells #[.int .i64 0, .int .i64 (rd : Int), .int .i64 (rs1 : Int), .int .i64 0, .int .u32 (iI : Int)] 26)).drew := ⟨_, rfl⟩
  rw [← hV]
  obtain ⟨b5, h5⟩ : ∃ b, b = w.heap.size := ⟨_, rfl⟩
  have r5 : V.row? b5 = some (insA 0 rd rs1 rs2 0) := by
    rw [hV, row_drew, row_alloc_past _ _ _ (by simp; omega), row_alloc_past _ _ _ (by simp; omega)]; exact row_alloc_at _ _ _ _ h5
  have r8 : V.row? (b5 + 1) = some (insA 0 0 0 0 0) := by
    rw [hV, row_drew, row_alloc_past _ _ _ (by simp; omega)]; exact row_alloc_at _ _ _ _ (by simp; omega)
  have r9 : V.row? (b5 + 1 + 1) = some (insA 0 rd rs1 0 iI) := by
    rw [hV, row_drew]; exact row_alloc_at _ _ _ _ (by simp; omega)
  have hVC : Chg [] w V := by rw [hV]; exact (((((Chg.refl _ _).alloc _).alloc _).alloc _).drew)
  rw [← h5]
  have HVC := Lib.hid hVC
  have H5 := Lib.hid h5
  clear hV hVC h5 HU
  have hrs : (rs2 : Int) % 4294967296 = (rs2 : Int) := by have := hrs2; omega
  have y1 : V.cell? ⟨b5, 1, none⟩ = some (.int .i64 (rd : Int)) := by rw [row_cell r5]; rfl
  have y2 : V.cell? ⟨b5, 2, none⟩ = some (.int .i64 (rs1 : Int)) := by rw [row_cell r5]; rfl
  have y3 : V.cell? ⟨b5, 3, none⟩ = some (.int .i64 (rs2 : Int)) := by rw [row_cell r5]; rfl
  obtain ⟨Z, hZ⟩ : ∃ Z, Z = V.alloc (.cells #[.int .i64 0, .int .i64 (rd : Int), .int .i64 (rs1 : Int), .int .i64 0, .int .u32 (rs2 : Int)] 26) := ⟨_, rfl⟩
  have u5 : Z.row? b5 = some (insA 0 rd rs1 rs2 0) := by rw [hZ, row_alloc_past _ _ _ (row_lt r5)]; exact r5
  have u8 : Z.row? (b5 + 1) = some (insA 0 0 0 0 0) := by rw [hZ, row_alloc_past _ _ _ (row_lt r8)]; exact r8
  have u9 : Z.row? (b5 + 1 + 1) = some (insA 0 rd rs1 0 iI) := by rw [hZ, row_alloc_past _ _ _ (row_lt r9)]; exact r9
  have ut : Z.row? V.heap.size = some #[.int .i64 0, .int .i64 (rd : Int), .int .i64 (rs1 : Int), .int .i64 0, .int .u32 (rs2 : Int)] := by rw [hZ]; exact row_alloc_at _ _ _ _ rfl
  have HZC : Hid (Chg [] w Z) := Lib.hid (by rw [hZ]; exact HVC.out.alloc _)
  obtain ⟨bt, hbt⟩ : ∃ b, b = V.heap.size := ⟨_, rfl⟩
  rw [← hbt] at ut
  have v0 : Z.cell? ⟨bt, 0, none⟩ = some (.int .i64 0) := by rw [row_cell ut]; rfl
  have v1 : Z.cell? ⟨bt, 1, none⟩ = some (.int .i64 (rd : Int)) := by rw [row_cell ut]; rfl
  have v2 : Z.cell? ⟨bt, 2, none⟩ = some (.int .i64 (rs1 : Int)) := by rw [row_cell ut]; rfl
  have v3 : Z.cell? ⟨bt, 3, none⟩ = some (.int .i64 0) := by rw [row_cell ut]; rfl
  have v4 : Z.cell? ⟨bt, 4, none⟩ = some (.int .u32 (rs2 : Int)) := by rw [row_cell ut]; rfl
  have hO : Calls Tryd.prog 29 #[.int .i64 25, .agg #[.int .i64 0, .int .i64 (rd : Int), .int .i64 (rs1 : Int), .int .i64 0, .int .u32 (rs2 : Int)]] Z fun e w2 => e = .returned (.agg (insA 25 rd rs1 0 rs2)) ∧ Chg [] Z w2 := of_any 25 rd rs1 0 rs2 0 Z
  have HO := Lib.hid hO
  have hRs : (insA 25 rd rs1 0 rs2).size = 5 := rfl
  have hRa : allOne (insA 25 rd rs1 0 rs2) = true := rfl
  obtain ⟨R, hR⟩ : ∃ R, R = insA 25 rd rs1 0 rs2 := ⟨_, rfl⟩
  rw [← hR] at HO hRs hRa
  have HR := Lib.hid hR
  clear hO hR
  go_wp2_with (fail)
  rw [← hbt, ← hZ]
  clear hZ hbt y1 y2 y3 r5 r8 r9 hrs
  go_wp2_with fail
  refine HO.out.mono ?_
  rintro e w2 ⟨rfl, hc2⟩
  have k8 : w2.row? (b5 + 1) = some (insA 0 0 0 0 0) := by rw [hc2.row (row_lt u8) (by simp)]; exact u8
  have HC2 : Hid (Chg [] w w2) := Lib.hid (HZC.out.trans hc2)
  clear hc2
  go_wp2_with (refine wpList_store_row a26 _ _ rfl rfl rfl rfl rfl k8 rfl hRs hRa ?_)
  refine bodyPost_ret (ret_cell1 rfl a26 rfl (by rw [row_setRow, if_pos rfl, k8]; rfl) hRs) rfl ?_
  exact ⟨by rw [HRR.out, HR.out], HC2.out.setRow (Or.inr (by have := H5.out; omega)) _⟩
set_option maxHeartbeats 1600000 in
theorem more19r (x rd rs1 rs2 f top : Nat) (hx : x < 4294967296) (hrs2 : rs2 < 32) (hlo : x % 128 = 19) (hf : f = 5) (ht : top = 0) (w : World) : Calls Tryd.prog 31 #[.int .u32 (x : Int), .agg (insA 0 rd rs1 rs2 0), .int .i64 (f : Int), .int .u32 (top : Int)] w fun e w' => e = .returned (.agg (insA 26 rd rs1 0 rs2)) ∧ Chg [] w w' := by
  have HU : Hid (∀ w : World, Calls Tryd.prog 16 #[.int .u32 (x : Int)] w fun e w' => e = .returned (.int .u32 (immI x : Nat)) ∧ w' = w) := Lib.hid (immI_any x hx)
  have E : bits .and .u32 (x : Int) 127 = ((x % 128 : Nat) : Int) := by
    rw [show ((127 : Int)) = ((127 : Nat) : Int) from rfl, and32 x 127 hx (by decide), show (127 : Nat) = 2 ^ 7 - 1 from rfl, and_low]
  subst hf
  subst ht
  rw [hlo] at E
  have HX := Lib.hid hx
  obtain ⟨iI, hiI⟩ : ∃ y, y = immI x := ⟨_, rfl⟩
  rw [← hiI] at HU
  try rw [← hiI]
  have HII := Lib.hid hiI
  clear hx hlo hiI
  obtain ⟨RR, hRR⟩ : ∃ RR, RR = insA 26 rd rs1 0 rs2 := ⟨_, rfl⟩
  rw [← hRR]
  have HRR := Lib.hid hRR
  clear hRR
  rw [show insA 0 rd rs1 rs2 0 = #[.int .i64 0, .int .i64 (rd : Int), .int .i64 (rs1 : Int), .int .i64 (rs2 : Int), .int .u32 0] from rfl]
  go_enter Tryd.func31, Tryd.ntmps31
  go_wp2_with fail
  refine wp_region_C (fun w' => w'.cell? ⟨w.heap.size, 1, none⟩ = some (.int .i64 (rd : Int)) ∧ w'.cell? ⟨w.heap.size, 2, none⟩ = some (.int .i64 (rs1 : Int))) [(0, 0), (1, 1), (2, 0), (3, 1), (4, 0), (5, 0), (6, 0), (7, 2), (8, 2)] rfl (by kernel_rfl) ?hSA ?hTA
  case hSA => simp
  refine wpT_pureD (v := ?_) (some 11) rfl rfl (by rfl) (fun w' => ?_) ?_
  rotate_left
  · (go_simp; try with_reducible rfl)
  try simp only [Act.put, List.setIfInBounds_toArray, List.set_cons_zero, List.set_cons_succ]
  refine wpT_readD (v := ?_) (some 12) rfl rfl (by rfl) (fun w' hw => ?_) ?_
  rotate_left
  · (obtain ⟨q0, q1⟩ := hw; go_simp; try with_reducible rfl)
  try simp only [Act.put, List.setIfInBounds_toArray, List.set_cons_zero, List.set_cons_succ]
  refine wpT_pureD (v := ?_) (some 13) rfl rfl (by rfl) (fun w' => ?_) ?_
  rotate_left
  · (go_simp; try with_reducible rfl)
  try simp only [Act.put, List.setIfInBounds_toArray, List.set_cons_zero, List.set_cons_succ]
  refine wpT_readD (v := ?_) (some 14) rfl rfl (by rfl) (fun w' hw => ?_) ?_
  rotate_left
  · (obtain ⟨q0, q1⟩ := hw; go_simp; try with_reducible rfl)
  try simp only [Act.put, List.setIfInBounds_toArray, List.set_cons_zero, List.set_cons_succ]
  refine wpT_pureD (v := ?_) (some 15) rfl rfl (by rfl) (fun w' => ?_) ?_
  rotate_left
  · (go_simp; try with_reducible rfl)
  try simp only [Act.put, List.setIfInBounds_toArray, List.set_cons_zero, List.set_cons_succ]
  refine wpT_call (d := some 16) (f := 16) (args := #[.int .u32 (x : Int)]) (v := .int .u32 (iI : Int)) rfl rfl (by rfl) (fun w' => by first | rfl | go_simp) (fun w' => HU.out w') ?_
  try simp only [Act.put, List.setIfInBounds_toArray, List.set_cons_zero, List.set_cons_succ]
  try simp only [Act.put, List.setIfInBounds_toArray, List.set_cons_zero, List.set_cons_succ]
  refine wpT_pureD (v := ?_) (some 17) rfl rfl (by rfl) (fun w' => ?_) ?_
  rotate_left
  · (go_simp; try with_reducible rfl)
  try simp only [Act.put, List.setIfInBounds_toArray, List.set_cons_zero, List.set_cons_succ]
  refine wpT_eff rfl (by rfl) (fun K hK => ?_)
  go_wp2_with fail
  refine hK _ _ (by go_simp) ?_
  clear hK K
  refine wpT_eff rfl (by rfl) (fun K hK => ?_)
  go_wp2_with fail
  refine hK _ _ (by go_simp) ?_
  clear hK K
  refine wpT_end ?_
  obtain ⟨V, hV⟩ : ∃ V, V = (((w.alloc (.cells #[.int .i64 0, .int .i64 (rd : Int), .int .i64 (rs1 : Int), .int .i64 (rs2 : Int), .int .u32 0] 26)).alloc (.cells #[.int .i64 0, .int .i64 0, .int .i64 0, .int .i64 0, .int .u32 0] 26)).alloc (.cells #[.int .i64 0, .int .i64 (rd : Int), .int .i64 (rs1 : Int), .int .i64 0, .int .u32 (iI : Int)] 26)).drew := ⟨_, rfl⟩
  rw [← hV]
  obtain ⟨b5, h5⟩ : ∃ b, b = w.heap.size := ⟨_, rfl⟩
  have r5 : V.row? b5 = some (insA 0 rd rs1 rs2 0) := by
    rw [hV, row_drew, row_alloc_past _ _ _ (by simp; omega), row_alloc_past _ _ _ (by simp; omega)]; exact row_alloc_at _ _ _ _ h5
  have r8 : V.row? (b5 + 1) = some (insA 0 0 0 0 0) := by
    rw [hV, row_drew, row_alloc_past _ _ _ (by simp; omega)]; exact row_alloc_at _ _ _ _ (by simp; omega)
  have r9 : V.row? (b5 + 1 + 1) = some (insA 0 rd rs1 0 iI) := by
    rw [hV, row_drew]; exact row_alloc_at _ _ _ _ (by simp; omega)
  have hVC : Chg [] w V := by rw [hV]; exact (((((Chg.refl _ _).alloc _).alloc _).alloc _).drew)
  rw [← h5]
  have HVC := Lib.hid hVC
  have H5 := Lib.hid h5
  clear hV hVC h5 HU
  have hrs : (rs2 : Int) % 4294967296 = (rs2 : Int) := by have := hrs2; omega
  have y1 : V.cell? ⟨b5, 1, none⟩ = some (.int .i64 (rd : Int)) := by rw [row_cell r5]; rfl
  have y2 : V.cell? ⟨b5, 2, none⟩ = some (.int .i64 (rs1 : Int)) := by rw [row_cell r5]; rfl
  have y3 : V.cell? ⟨b5, 3, none⟩ = some (.int .i64 (rs2 : Int)) := by rw [row_cell r5]; rfl
  obtain ⟨Z, hZ⟩ : ∃ Z, Z = V.alloc (.cells #[.int .i64 0, .int .i64 (rd : Int), .int .i64 (rs1 : Int), .int .i64 0, .int .u32 (rs2 : Int)] 26) := ⟨_, rfl⟩
  have u5 : Z.row? b5 = some (insA 0 rd rs1 rs2 0) := by rw [hZ, row_alloc_past _ _ _ (row_lt r5)]; exact r5
  have u8 : Z.row? (b5 + 1) = some (insA 0 0 0 0 0) := by rw [hZ, row_alloc_past _ _ _ (row_lt r8)]; exact r8
  have u9 : Z.row? (b5 + 1 + 1) = some (insA 0 rd rs1 0 iI) := by rw [hZ, row_alloc_past _ _ _ (row_lt r9)]; exact r9
  have ut : Z.row? V.heap.size = some #[.int .i64 0, .int .i64 (rd : Int), .int .i64 (rs1 : Int), .int .i64 0, .int .u32 (rs2 : Int)] := by rw [hZ]; exact row_alloc_at _ _ _ _ rfl
  have HZC : Hid (Chg [] w Z) := Lib.hid (by rw [hZ]; exact HVC.out.alloc _)
  obtain ⟨bt, hbt⟩ : ∃ b, b = V.heap.size := ⟨_, rfl⟩
  rw [← hbt] at ut
  have v0 : Z.cell? ⟨bt, 0, none⟩ = some (.int .i64 0) := by rw [row_cell ut]; rfl
  have v1 : Z.cell? ⟨bt, 1, none⟩ = some (.int .i64 (rd : Int)) := by rw [row_cell ut]; rfl
  have v2 : Z.cell? ⟨bt, 2, none⟩ = some (.int .i64 (rs1 : Int)) := by rw [row_cell ut]; rfl
  have v3 : Z.cell? ⟨bt, 3, none⟩ = some (.int .i64 0) := by rw [row_cell ut]; rfl
  have v4 : Z.cell? ⟨bt, 4, none⟩ = some (.int .u32 (rs2 : Int)) := by rw [row_cell ut]; rfl
  have hO : Calls Tryd.prog 29 #[.int .i64 26, .agg #[.int .i64 0, .int .i64 (rd : Int), .int .i64 (rs1 : Int), .int .i64 0, .int .u32 (rs2 : Int)]] Z fun e w2 => e = .returned (.agg (insA 26 rd rs1 0 rs2)) ∧ Chg [] Z w2 := of_any 26 rd rs1 0 rs2 0 Z
  have HO := Lib.hid hO
  have hRs : (insA 26 rd rs1 0 rs2).size = 5 := rfl
  have hRa : allOne (insA 26 rd rs1 0 rs2) = true := rfl
  obtain ⟨R, hR⟩ : ∃ R, R = insA 26 rd rs1 0 rs2 := ⟨_, rfl⟩
  rw [← hR] at HO hRs hRa
  have HR := Lib.hid hR
  clear hO hR
  go_wp2_with (fail)
  rw [← hbt, ← hZ]
  clear hZ hbt y1 y2 y3 r5 r8 r9 hrs
  go_wp2_with fail
  refine HO.out.mono ?_
  rintro e w2 ⟨rfl, hc2⟩
  have k8 : w2.row? (b5 + 1) = some (insA 0 0 0 0 0) := by rw [hc2.row (row_lt u8) (by simp)]; exact u8
  have HC2 : Hid (Chg [] w w2) := Lib.hid (HZC.out.trans hc2)
  clear hc2
  go_wp2_with (refine wpList_store_row a26 _ _ rfl rfl rfl rfl rfl k8 rfl hRs hRa ?_)
  refine bodyPost_ret (ret_cell1 rfl a26 rfl (by rw [row_setRow, if_pos rfl, k8]; rfl) hRs) rfl ?_
  exact ⟨by rw [HRR.out, HR.out], HC2.out.setRow (Or.inr (by have := H5.out; omega)) _⟩
set_option maxHeartbeats 1600000 in
theorem more19a (x rd rs1 rs2 f top : Nat) (hx : x < 4294967296) (hrs2 : rs2 < 32) (hlo : x % 128 = 19) (hf : f = 5) (ht : top = 32) (w : World) : Calls Tryd.prog 31 #[.int .u32 (x : Int), .agg (insA 0 rd rs1 rs2 0), .int .i64 (f : Int), .int .u32 (top : Int)] w fun e w' => e = .returned (.agg (insA 27 rd rs1 0 rs2)) ∧ Chg [] w w' := by
  have HU : Hid (∀ w : World, Calls Tryd.prog 16 #[.int .u32 (x : Int)] w fun e w' => e = .returned (.int .u32 (immI x : Nat)) ∧ w' = w) := Lib.hid (immI_any x hx)
  have E : bits .and .u32 (x : Int) 127 = ((x % 128 : Nat) : Int) := by
    rw [show ((127 : Int)) = ((127 : Nat) : Int) from rfl, and32 x 127 hx (by decide), show (127 : Nat) = 2 ^ 7 - 1 from rfl, and_low]
  subst hf
  subst ht
  rw [hlo] at E
  have HX := Lib.hid hx
  obtain ⟨iI, hiI⟩ : ∃ y, y = immI x := ⟨_, rfl⟩
  rw [← hiI] at HU
  try rw [← hiI]
  have HII := Lib.hid hiI
  clear hx hlo hiI
  obtain ⟨RR, hRR⟩ : ∃ RR, RR = insA 27 rd rs1 0 rs2 := ⟨_, rfl⟩
  rw [← hRR]
  have HRR := Lib.hid hRR
  clear hRR
  rw [show insA 0 rd rs1 rs2 0 = #[.int .i64 0, .int .i64 (rd : Int), .int .i64 (rs1 : Int), .int .i64 (rs2 : Int), .int .u32 0] from rfl]
  go_enter Tryd.func31, Tryd.ntmps31
  go_wp2_with fail
  refine wp_region_C (fun w' => w'.cell? ⟨w.heap.size, 1, none⟩ = some (.int .i64 (rd : Int)) ∧ w'.cell? ⟨w.heap.size, 2, none⟩ = some (.int .i64 (rs1 : Int))) [(0, 0), (1, 1), (2, 0), (3, 1), (4, 0), (5, 0), (6, 0), (7, 2), (8, 2)] rfl (by kernel_rfl) ?hSA ?hTA
  case hSA => simp
  refine wpT_pureD (v := ?_) (some 11) rfl rfl (by rfl) (fun w' => ?_) ?_
  rotate_left
  · (go_simp; try with_reducible rfl)
  try simp only [Act.put, List.setIfInBounds_toArray, List.set_cons_zero, List.set_cons_succ]
  refine wpT_readD (v := ?_) (some 12) rfl rfl (by rfl) (fun w' hw => ?_) ?_
  rotate_left
  · (obtain ⟨q0, q1⟩ := hw; go_simp; try with_reducible rfl)
  try simp only [Act.put, List.setIfInBounds_toArray, List.set_cons_zero, List.set_cons_succ]
  refine wpT_pureD (v := ?_) (some 13) rfl rfl (by rfl) (fun w' => ?_) ?_
  rotate_left
  · (go_simp; try with_reducible rfl)
  try simp only [Act.put, List.setIfInBounds_toArray, List.set_cons_zero, List.set_cons_succ]
  refine wpT_readD (v := ?_) (some 14) rfl rfl (by rfl) (fun w' hw => ?_) ?_
  rotate_left
  · (obtain ⟨q0, q1⟩ := hw; go_simp; try with_reducible rfl)
  try simp only [Act.put, List.setIfInBounds_toArray, List.set_cons_zero, List.set_cons_succ]
  refine wpT_pureD (v := ?_) (some 15) rfl rfl (by rfl) (fun w' => ?_) ?_
  rotate_left
  · (go_simp; try with_reducible rfl)
  try simp only [Act.put, List.setIfInBounds_toArray, List.set_cons_zero, List.set_cons_succ]
  refine wpT_call (d := some 16) (f := 16) (args := #[.int .u32 (x : Int)]) (v := .int .u32 (iI : Int)) rfl rfl (by rfl) (fun w' => by first | rfl | go_simp) (fun w' => HU.out w') ?_
  try simp only [Act.put, List.setIfInBounds_toArray, List.set_cons_zero, List.set_cons_succ]
  try simp only [Act.put, List.setIfInBounds_toArray, List.set_cons_zero, List.set_cons_succ]
  refine wpT_pureD (v := ?_) (some 17) rfl rfl (by rfl) (fun w' => ?_) ?_
  rotate_left
  · (go_simp; try with_reducible rfl)
  try simp only [Act.put, List.setIfInBounds_toArray, List.set_cons_zero, List.set_cons_succ]
  refine wpT_eff rfl (by rfl) (fun K hK => ?_)
  go_wp2_with fail
  refine hK _ _ (by go_simp) ?_
  clear hK K
  refine wpT_eff rfl (by rfl) (fun K hK => ?_)
  go_wp2_with fail
  refine hK _ _ (by go_simp) ?_
  clear hK K
  refine wpT_end ?_
  obtain ⟨V, hV⟩ : ∃ V, V = (((w.alloc (.cells #[.int .i64 0, .int .i64 (rd : Int), .int .i64 (rs1 : Int), .int .i64 (rs2 : Int), .int .u32 0] 26)).alloc (.cells #[.int .i64 0, .int .i64 0, .int .i64 0, .int .i64 0, .int .u32 0] 26)).alloc (.cells #[.int .i64 0, .int .i64 (rd : Int), .int .i64 (rs1 : Int), .int .i64 0, .int .u32 (iI : Int)] 26)).drew := ⟨_, rfl⟩
  rw [← hV]
  obtain ⟨b5, h5⟩ : ∃ b, b = w.heap.size := ⟨_, rfl⟩
  have r5 : V.row? b5 = some (insA 0 rd rs1 rs2 0) := by
    rw [hV, row_drew, row_alloc_past _ _ _ (by simp; omega), row_alloc_past _ _ _ (by simp; omega)]; exact row_alloc_at _ _ _ _ h5
  have r8 : V.row? (b5 + 1) = some (insA 0 0 0 0 0) := by
    rw [hV, row_drew, row_alloc_past _ _ _ (by simp; omega)]; exact row_alloc_at _ _ _ _ (by simp; omega)
  have r9 : V.row? (b5 + 1 + 1) = some (insA 0 rd rs1 0 iI) := by
    rw [hV, row_drew]; exact row_alloc_at _ _ _ _ (by simp; omega)
  have hVC : Chg [] w V := by rw [hV]; exact (((((Chg.refl _ _).alloc _).alloc _).alloc _).drew)
  rw [← h5]
  have HVC := Lib.hid hVC
  have H5 := Lib.hid h5
  clear hV hVC h5 HU
  have hrs : (rs2 : Int) % 4294967296 = (rs2 : Int) := by have := hrs2; omega
  have y1 : V.cell? ⟨b5, 1, none⟩ = some (.int .i64 (rd : Int)) := by rw [row_cell r5]; rfl
  have y2 : V.cell? ⟨b5, 2, none⟩ = some (.int .i64 (rs1 : Int)) := by rw [row_cell r5]; rfl
  have y3 : V.cell? ⟨b5, 3, none⟩ = some (.int .i64 (rs2 : Int)) := by rw [row_cell r5]; rfl
  obtain ⟨Z, hZ⟩ : ∃ Z, Z = V.alloc (.cells #[.int .i64 0, .int .i64 (rd : Int), .int .i64 (rs1 : Int), .int .i64 0, .int .u32 (rs2 : Int)] 26) := ⟨_, rfl⟩
  have u5 : Z.row? b5 = some (insA 0 rd rs1 rs2 0) := by rw [hZ, row_alloc_past _ _ _ (row_lt r5)]; exact r5
  have u8 : Z.row? (b5 + 1) = some (insA 0 0 0 0 0) := by rw [hZ, row_alloc_past _ _ _ (row_lt r8)]; exact r8
  have u9 : Z.row? (b5 + 1 + 1) = some (insA 0 rd rs1 0 iI) := by rw [hZ, row_alloc_past _ _ _ (row_lt r9)]; exact r9
  have ut : Z.row? V.heap.size = some #[.int .i64 0, .int .i64 (rd : Int), .int .i64 (rs1 : Int), .int .i64 0, .int .u32 (rs2 : Int)] := by rw [hZ]; exact row_alloc_at _ _ _ _ rfl
  have HZC : Hid (Chg [] w Z) := Lib.hid (by rw [hZ]; exact HVC.out.alloc _)
  obtain ⟨bt, hbt⟩ : ∃ b, b = V.heap.size := ⟨_, rfl⟩
  rw [← hbt] at ut
  have v0 : Z.cell? ⟨bt, 0, none⟩ = some (.int .i64 0) := by rw [row_cell ut]; rfl
  have v1 : Z.cell? ⟨bt, 1, none⟩ = some (.int .i64 (rd : Int)) := by rw [row_cell ut]; rfl
  have v2 : Z.cell? ⟨bt, 2, none⟩ = some (.int .i64 (rs1 : Int)) := by rw [row_cell ut]; rfl
  have v3 : Z.cell? ⟨bt, 3, none⟩ = some (.int .i64 0) := by rw [row_cell ut]; rfl
  have v4 : Z.cell? ⟨bt, 4, none⟩ = some (.int .u32 (rs2 : Int)) := by rw [row_cell ut]; rfl
  have hO : Calls Tryd.prog 29 #[.int .i64 27, .agg #[.int .i64 0, .int .i64 (rd : Int), .int .i64 (rs1 : Int), .int .i64 0, .int .u32 (rs2 : Int)]] Z fun e w2 => e = .returned (.agg (insA 27 rd rs1 0 rs2)) ∧ Chg [] Z w2 := of_any 27 rd rs1 0 rs2 0 Z
  have HO := Lib.hid hO
  have hRs : (insA 27 rd rs1 0 rs2).size = 5 := rfl
  have hRa : allOne (insA 27 rd rs1 0 rs2) = true := rfl
  obtain ⟨R, hR⟩ : ∃ R, R = insA 27 rd rs1 0 rs2 := ⟨_, rfl⟩
  rw [← hR] at HO hRs hRa
  have HR := Lib.hid hR
  clear hO hR
  go_wp2_with (fail)
  rw [← hbt, ← hZ]
  clear hZ hbt y1 y2 y3 r5 r8 r9 hrs
  go_wp2_with fail
  refine HO.out.mono ?_
  rintro e w2 ⟨rfl, hc2⟩
  have k8 : w2.row? (b5 + 1) = some (insA 0 0 0 0 0) := by rw [hc2.row (row_lt u8) (by simp)]; exact u8
  have HC2 : Hid (Chg [] w w2) := Lib.hid (HZC.out.trans hc2)
  clear hc2
  go_wp2_with (refine wpList_store_row a26 _ _ rfl rfl rfl rfl rfl k8 rfl hRs hRa ?_)
  refine bodyPost_ret (ret_cell1 rfl a26 rfl (by rw [row_setRow, if_pos rfl, k8]; rfl) hRs) rfl ?_
  exact ⟨by rw [HRR.out, HR.out], HC2.out.setRow (Or.inr (by have := H5.out; omega)) _⟩
set_option maxHeartbeats 1600000 in
theorem more19n (x rd rs1 rs2 f top : Nat) (hx : x < 4294967296) (hrs2 : rs2 < 32) (hlo : x % 128 = 19) (hf1 : f ≠ 1) (hf5 : f ≠ 5) (w : World) : Calls Tryd.prog 31 #[.int .u32 (x : Int), .agg (insA 0 rd rs1 rs2 0), .int .i64 (f : Int), .int .u32 (top : Int)] w fun e w' => e = .returned (.agg (if ([19, 0, 20, 21, 22, 0, 23, 24] : List Nat).getD f 0 = 0 then insA 0 0 0 0 0 else insA (([19, 0, 20, 21, 22, 0, 23, 24] : List Nat).getD f 0) rd rs1 0 (immI x))) ∧ Chg [] w w' := by
  have HU : Hid (∀ w : World, Calls Tryd.prog 16 #[.int .u32 (x : Int)] w fun e w' => e = .returned (.int .u32 (immI x : Nat)) ∧ w' = w) := Lib.hid (immI_any x hx)
  have E : bits .and .u32 (x : Int) 127 = ((x % 128 : Nat) : Int) := by
    rw [show ((127 : Int)) = ((127 : Nat) : Int) from rfl, and32 x 127 hx (by decide), show (127 : Nat) = 2 ^ 7 - 1 from rfl, and_low]
  have p1a : ((f : Int) == 1) = false := by rw [beq_eq_false_iff_ne]; omega
  have p1b : ((f : Int) = 1) = False := by simp; omega
  have p5a : ((f : Int) == 5) = false := by rw [beq_eq_false_iff_ne]; omega
  have p5b : ((f : Int) = 5) = False := by simp; omega
  clear hf1 hf5
  rw [hlo] at E
  have HX := Lib.hid hx
  obtain ⟨iI, hiI⟩ : ∃ y, y = immI x := ⟨_, rfl⟩
  rw [← hiI] at HU
  try rw [← hiI]
  have HII := Lib.hid hiI
  clear hx hlo hiI
  obtain ⟨RR, hRR⟩ : ∃ RR, RR = if ([19, 0, 20, 21, 22, 0, 23, 24] : List Nat).getD f 0 = 0 then insA 0 0 0 0 0 else insA (([19, 0, 20, 21, 22, 0, 23, 24] : List Nat).getD f 0) rd rs1 0 (iI) := ⟨_, rfl⟩
  rw [← hRR]
  have HRR := Lib.hid hRR
  clear hRR
  rw [show insA 0 rd rs1 rs2 0 = #[.int .i64 0, .int .i64 (rd : Int), .int .i64 (rs1 : Int), .int .i64 (rs2 : Int), .int .u32 0] from rfl]
  go_enter Tryd.func31, Tryd.ntmps31
  go_wp2_with fail
  refine wp_region_C (fun w' => w'.cell? ⟨w.heap.size, 1, none⟩ = some (.int .i64 (rd : Int)) ∧ w'.cell? ⟨w.heap.size, 2, none⟩ = some (.int .i64 (rs1 : Int))) [(0, 0), (1, 1), (2, 0), (3, 1), (4, 0), (5, 0), (6, 0), (7, 2), (8, 2)] rfl (by kernel_rfl) ?hSA ?hTA
  case hSA => simp
  refine wpT_pureD (v := ?_) (some 11) rfl rfl (by rfl) (fun w' => ?_) ?_
  rotate_left
  · (go_simp; try with_reducible rfl)
  try simp only [Act.put, List.setIfInBounds_toArray, List.set_cons_zero, List.set_cons_succ]
  refine wpT_readD (v := ?_) (some 12) rfl rfl (by rfl) (fun w' hw => ?_) ?_
  rotate_left
  · (obtain ⟨q0, q1⟩ := hw; go_simp; try with_reducible rfl)
  try simp only [Act.put, List.setIfInBounds_toArray, List.set_cons_zero, List.set_cons_succ]
  refine wpT_pureD (v := ?_) (some 13) rfl rfl (by rfl) (fun w' => ?_) ?_
  rotate_left
  · (go_simp; try with_reducible rfl)
  try simp only [Act.put, List.setIfInBounds_toArray, List.set_cons_zero, List.set_cons_succ]
  refine wpT_readD (v := ?_) (some 14) rfl rfl (by rfl) (fun w' hw => ?_) ?_
  rotate_left
  · (obtain ⟨q0, q1⟩ := hw; go_simp; try with_reducible rfl)
  try simp only [Act.put, List.setIfInBounds_toArray, List.set_cons_zero, List.set_cons_succ]
  refine wpT_pureD (v := ?_) (some 15) rfl rfl (by rfl) (fun w' => ?_) ?_
  rotate_left
  · (go_simp; try with_reducible rfl)
  try simp only [Act.put, List.setIfInBounds_toArray, List.set_cons_zero, List.set_cons_succ]
  refine wpT_call (d := some 16) (f := 16) (args := #[.int .u32 (x : Int)]) (v := .int .u32 (iI : Int)) rfl rfl (by rfl) (fun w' => by first | rfl | go_simp) (fun w' => HU.out w') ?_
  try simp only [Act.put, List.setIfInBounds_toArray, List.set_cons_zero, List.set_cons_succ]
  try simp only [Act.put, List.setIfInBounds_toArray, List.set_cons_zero, List.set_cons_succ]
  refine wpT_pureD (v := ?_) (some 17) rfl rfl (by rfl) (fun w' => ?_) ?_
  rotate_left
  · (go_simp; try with_reducible rfl)
  try simp only [Act.put, List.setIfInBounds_toArray, List.set_cons_zero, List.set_cons_succ]
  refine wpT_eff rfl (by rfl) (fun K hK => ?_)
  go_wp2_with fail
  refine hK _ _ (by go_simp) ?_
  clear hK K
  refine wpT_eff rfl (by rfl) (fun K hK => ?_)
  go_wp2_with fail
  refine hK _ _ (by go_simp) ?_
  clear hK K
  refine wpT_end ?_
  obtain ⟨V, hV⟩ : ∃ V, V = (((w.alloc (.cells #[.int .i64 0, .int .i64 (rd : Int), .int .i64 (rs1 : Int), .int .i64 (rs2 : Int), .int .u32 0] 26)).alloc (.cells #[.int .i64 0, .int .i64 0, .int .i64 0, .int .i64 0, .int .u32 0] 26)).alloc (.cells #[.int .i64 0, .int .i64 (rd : Int), .int .i64 (rs1 : Int), .int .i64 0, .int .u32 (iI : Int)] 26)).drew := ⟨_, rfl⟩
  rw [← hV]
  obtain ⟨b5, h5⟩ : ∃ b, b = w.heap.size := ⟨_, rfl⟩
  have r5 : V.row? b5 = some (insA 0 rd rs1 rs2 0) := by
    rw [hV, row_drew, row_alloc_past _ _ _ (by simp; omega), row_alloc_past _ _ _ (by simp; omega)]; exact row_alloc_at _ _ _ _ h5
  have r8 : V.row? (b5 + 1) = some (insA 0 0 0 0 0) := by
    rw [hV, row_drew, row_alloc_past _ _ _ (by simp; omega)]; exact row_alloc_at _ _ _ _ (by simp; omega)
  have r9 : V.row? (b5 + 1 + 1) = some (insA 0 rd rs1 0 iI) := by
    rw [hV, row_drew]; exact row_alloc_at _ _ _ _ (by simp; omega)
  have hVC : Chg [] w V := by rw [hV]; exact (((((Chg.refl _ _).alloc _).alloc _).alloc _).drew)
  rw [← h5]
  have HVC := Lib.hid hVC
  have H5 := Lib.hid h5
  clear hV hVC h5 HU
  have hrs : (rs2 : Int) % 4294967296 = (rs2 : Int) := by have := hrs2; omega
  have y1 : V.cell? ⟨b5, 1, none⟩ = some (.int .i64 (rd : Int)) := by rw [row_cell r5]; rfl
  have y2 : V.cell? ⟨b5, 2, none⟩ = some (.int .i64 (rs1 : Int)) := by rw [row_cell r5]; rfl
  have y3 : V.cell? ⟨b5, 3, none⟩ = some (.int .i64 (rs2 : Int)) := by rw [row_cell r5]; rfl
  obtain ⟨Z, hZ⟩ : ∃ Z, Z = V.alloc (.cells #[.int .i64 0, .int .i64 (rd : Int), .int .i64 (rs1 : Int), .int .i64 0, .int .u32 (rs2 : Int)] 26) := ⟨_, rfl⟩
  have u5 : Z.row? b5 = some (insA 0 rd rs1 rs2 0) := by rw [hZ, row_alloc_past _ _ _ (row_lt r5)]; exact r5
  have u8 : Z.row? (b5 + 1) = some (insA 0 0 0 0 0) := by rw [hZ, row_alloc_past _ _ _ (row_lt r8)]; exact r8
  have u9 : Z.row? (b5 + 1 + 1) = some (insA 0 rd rs1 0 iI) := by rw [hZ, row_alloc_past _ _ _ (row_lt r9)]; exact r9
  have ut : Z.row? V.heap.size = some #[.int .i64 0, .int .i64 (rd : Int), .int .i64 (rs1 : Int), .int .i64 0, .int .u32 (rs2 : Int)] := by rw [hZ]; exact row_alloc_at _ _ _ _ rfl
  have HZC : Hid (Chg [] w Z) := Lib.hid (by rw [hZ]; exact HVC.out.alloc _)
  obtain ⟨bt, hbt⟩ : ∃ b, b = V.heap.size := ⟨_, rfl⟩
  rw [← hbt] at ut
  go_wp2_with fail
  rw [← hbt, ← hZ]
  clear hZ hbt y1 y2 y3 r5 r8 r9 hrs
  refine wp_region_C (fun w' => w'.row? (b5 + 1 + 1) = some (insA 0 rd rs1 0 iI) ∧ w'.row? (b5 + 1) = some (insA 0 0 0 0 0)) [(0, 0), (3, 1), (1, 2), (2, 2), (4, 2), (5, 3)] rfl (by kernel_rfl) ?hSB ?hTB
  case hSB => exact ⟨u9, u8⟩
  refine wpT_pureD (v := ?_) (some 77) rfl rfl (by rfl) (fun w' => ?_) ?_
  rotate_left
  · (go_simp; try with_reducible rfl)
  try simp only [Act.put, List.setIfInBounds_toArray, List.set_cons_zero, List.set_cons_succ]
  refine wpT_load_part a26 [.int .i64 0, .int .i64 (rd : Int), .int .i64 (rs1 : Int), .int .i64 0, .int .u32 (iI : Int)] (some 80) _ rfl rfl rfl (by rfl) rfl rfl (fun w' hw j u hu => by rw [Nat.zero_add, row_cell hw.1]; simpa [insA] using hu) ?_
  try simp only [Act.put, List.setIfInBounds_toArray, List.set_cons_zero, List.set_cons_succ]
  try simp only [Act.put, List.setIfInBounds_toArray, List.set_cons_zero, List.set_cons_succ]
  refine wpT_eff rfl (by rfl) (fun K hK => ?_)
  go_wp2_with fail
  refine hK _ _ (by exact ⟨by rw [row_drew, row_alloc_past _ _ _ (row_lt u9)]; exact u9, by rw [row_drew, row_alloc_past _ _ _ (row_lt u8)]; exact u8⟩) ?_
  clear hK K
  refine wpT_eff rfl (by rfl) (fun K hK => ?_)
  obtain ⟨V2, hV2⟩ : ∃ V2, V2 = (Z.alloc (.cells #[.int .i64 19, .int .i64 0, .int .i64 20, .int .i64 21, .int .i64 22, .int .i64 0, .int .i64 23, .int .i64 24] 3)).drew := ⟨_, rfl⟩
  have q1 : V2.row? (b5 + 1 + 1) = some (insA 0 rd rs1 0 iI) := by rw [hV2, row_drew, row_alloc_past _ _ _ (row_lt u9)]; exact u9
  have q8 : V2.row? (b5 + 1) = some (insA 0 0 0 0 0) := by rw [hV2, row_drew, row_alloc_past _ _ _ (row_lt u8)]; exact u8
  have qL : V2.row? Z.heap.size = some #[.int .i64 19, .int .i64 0, .int .i64 20, .int .i64 21, .int .i64 22, .int .i64 0, .int .i64 23, .int .i64 24] := by rw [hV2, row_drew]; exact row_alloc_at _ _ _ _ rfl
  have hVC2 : Chg [] w V2 := by rw [hV2]; exact (HZC.out.alloc _).drew
  have hP := pick_any (w := V2) (B := Z.heap.size) (c := 8) [19, 0, 20, 21, 22, 0, 23, 24] rfl (fun j u hu => by rw [row_cell qL]; revert hu; match j with | 0 => intro hu; cases hu; rfl | 1 => intro hu; cases hu; rfl | 2 => intro hu; cases hu; rfl | 3 => intro hu; cases hu; rfl | 4 => intro hu; cases hu; rfl | 5 => intro hu; cases hu; rfl | 6 => intro hu; cases hu; rfl | 7 => intro hu; cases hu; rfl | _ + 8 => intro hu; cases hu) f
  obtain ⟨op, hop⟩ : ∃ op, op = ([19, 0, 20, 21, 22, 0, 23, 24] : List Nat).getD f 0 := ⟨_, rfl⟩
  rw [← hop] at hP
  have HOP := Lib.hid hop
  have HP := Lib.hid hP
  clear hop hP
  go_wp2_with fail
  rw [← hV2]
  have HV2 := Lib.hid hVC2
  clear hV2 hVC2
  refine HP.out.mono ?_
  rintro e w' ⟨rfl, rfl⟩
  go_wp2_with fail
  refine hK _ _ ⟨q1, q8⟩ ?_
  clear hK K
  refine wpT_eff rfl (by rfl) (fun K hK => ?_)
  have hO : Calls Tryd.prog 29 #[.int .i64 (op : Int), .agg #[.int .i64 0, .int .i64 (rd : Int), .int .i64 (rs1 : Int), .int .i64 0, .int .u32 (iI : Int)]] w' fun e w2 => e = .returned (.agg (if op = 0 then insA 0 0 0 0 0 else insA op rd rs1 0 iI)) ∧ Chg [] w' w2 := of_any op rd rs1 0 iI 0 w'
  obtain ⟨R, hR⟩ : ∃ R, R = if op = 0 then insA 0 0 0 0 0 else insA op rd rs1 0 iI := ⟨_, rfl⟩
  have hRs : R.size = 5 := by rw [hR]; split <;> rfl
  have hRa : allOne R = true := by rw [hR]; split <;> rfl
  rw [← hR] at hO
  have HO := Lib.hid hO
  have HR := Lib.hid hR
  clear hO hR
  go_wp2_with fail
  refine HO.out.mono ?_
  rintro e w2 ⟨rfl, hc2⟩
  have k8 : w2.row? (b5 + 1) = some (insA 0 0 0 0 0) := by rw [hc2.row (row_lt q8) (by simp)]; exact q8
  have k1 : w2.row? (b5 + 1 + 1) = some (insA 0 rd rs1 0 iI) := by rw [hc2.row (row_lt q1) (by simp)]; exact q1
  have HC2 : Hid (Chg [] w w2) := Lib.hid (HV2.out.trans hc2)
  clear hc2
  go_wp2_with fail
  refine hK _ _ ⟨k1, k8⟩ ?_
  clear hK K
  refine wpT_brk rfl (by rfl) (fun K hK => ?_)
  go_wp2_with (refine wpList_store_row a26 _ _ rfl rfl rfl rfl rfl k8 rfl hRs hRa ?_)
  refine wpT_end ?_
  go_wp2
  refine bodyPost_ret (ret_cell1 rfl a26 rfl (by rw [row_setRow, if_pos rfl, k8]; rfl) hRs) rfl ?_
  exact ⟨by rw [HRR.out, HR.out, HOP.out], HC2.out.setRow (Or.inr (by have := H5.out; omega)) _⟩
set_option maxHeartbeats 1600000 in
theorem more19n1 (x rd rs1 rs2 f top : Nat) (hx : x < 4294967296) (hrs2 : rs2 < 32) (hlo : x % 128 = 19) (hf : f = 1) (ht : top ≠ 0) (w : World) : Calls Tryd.prog 31 #[.int .u32 (x : Int), .agg (insA 0 rd rs1 rs2 0), .int .i64 (f : Int), .int .u32 (top : Int)] w fun e w' => e = .returned (.agg (if ([19, 0, 20, 21, 22, 0, 23, 24] : List Nat).getD f 0 = 0 then insA 0 0 0 0 0 else insA (([19, 0, 20, 21, 22, 0, 23, 24] : List Nat).getD f 0) rd rs1 0 (immI x))) ∧ Chg [] w w' := by
  have HU : Hid (∀ w : World, Calls Tryd.prog 16 #[.int .u32 (x : Int)] w fun e w' => e = .returned (.int .u32 (immI x : Nat)) ∧ w' = w) := Lib.hid (immI_any x hx)
  have E : bits .and .u32 (x : Int) 127 = ((x % 128 : Nat) : Int) := by
    rw [show ((127 : Int)) = ((127 : Nat) : Int) from rfl, and32 x 127 hx (by decide), show (127 : Nat) = 2 ^ 7 - 1 from rfl, and_low]
  have p0a : ((top : Int) == 0) = false := by rw [beq_eq_false_iff_ne]; omega
  have p0b : ((top : Int) = 0) = False := by simp; omega
  clear ht
  subst hf
  rw [hlo] at E
  have HX := Lib.hid hx
  obtain ⟨iI, hiI⟩ : ∃ y, y = immI x := ⟨_, rfl⟩
  rw [← hiI] at HU
  try rw [← hiI]
  have HII := Lib.hid hiI
  clear hx hlo hiI
  obtain ⟨RR, hRR⟩ : ∃ RR, RR = if ([19, 0, 20, 21, 22, 0, 23, 24] : List Nat).getD 1 0 = 0 then insA 0 0 0 0 0 else insA (([19, 0, 20, 21, 22, 0, 23, 24] : List Nat).getD 1 0) rd rs1 0 (iI) := ⟨_, rfl⟩
  rw [← hRR]
  have HRR := Lib.hid hRR
  clear hRR
  rw [show insA 0 rd rs1 rs2 0 = #[.int .i64 0, .int .i64 (rd : Int), .int .i64 (rs1 : Int), .int .i64 (rs2 : Int), .int .u32 0] from rfl]
  go_enter Tryd.func31, Tryd.ntmps31
  go_wp2_with fail
  refine wp_region_C (fun w' => w'.cell? ⟨w.heap.size, 1, none⟩ = some (.int .i64 (rd : Int)) ∧ w'.cell? ⟨w.heap.size, 2, none⟩ = some (.int .i64 (rs1 : Int))) [(0, 0), (1, 1), (2, 0), (3, 1), (4, 0), (5, 0), (6, 0), (7, 2), (8, 2)] rfl (by kernel_rfl) ?hSA ?hTA
  case hSA => simp
  refine wpT_pureD (v := ?_) (some 11) rfl rfl (by rfl) (fun w' => ?_) ?_
  rotate_left
  · (go_simp; try with_reducible rfl)
  try simp only [Act.put, List.setIfInBounds_toArray, List.set_cons_zero, List.set_cons_succ]
  refine wpT_readD (v := ?_) (some 12) rfl rfl (by rfl) (fun w' hw => ?_) ?_
  rotate_left
  · (obtain ⟨q0, q1⟩ := hw; go_simp; try with_reducible rfl)
  try simp only [Act.put, List.setIfInBounds_toArray, List.set_cons_zero, List.set_cons_succ]
  refine wpT_pureD (v := ?_) (some 13) rfl rfl (by rfl) (fun w' => ?_) ?_
  rotate_left
  · (go_simp; try with_reducible rfl)
  try simp only [Act.put, List.setIfInBounds_toArray, List.set_cons_zero, List.set_cons_succ]
  refine wpT_readD (v := ?_) (some 14) rfl rfl (by rfl) (fun w' hw => ?_) ?_
  rotate_left
  · (obtain ⟨q0, q1⟩ := hw; go_simp; try with_reducible rfl)
  try simp only [Act.put, List.setIfInBounds_toArray, List.set_cons_zero, List.set_cons_succ]
  refine wpT_pureD (v := ?_) (some 15) rfl rfl (by rfl) (fun w' => ?_) ?_
  rotate_left
  · (go_simp; try with_reducible rfl)
  try simp only [Act.put, List.setIfInBounds_toArray, List.set_cons_zero, List.set_cons_succ]
  refine wpT_call (d := some 16) (f := 16) (args := #[.int .u32 (x : Int)]) (v := .int .u32 (iI : Int)) rfl rfl (by rfl) (fun w' => by first | rfl | go_simp) (fun w' => HU.out w') ?_
  try simp only [Act.put, List.setIfInBounds_toArray, List.set_cons_zero, List.set_cons_succ]
  try simp only [Act.put, List.setIfInBounds_toArray, List.set_cons_zero, List.set_cons_succ]
  refine wpT_pureD (v := ?_) (some 17) rfl rfl (by rfl) (fun w' => ?_) ?_
  rotate_left
  · (go_simp; try with_reducible rfl)
  try simp only [Act.put, List.setIfInBounds_toArray, List.set_cons_zero, List.set_cons_succ]
  refine wpT_eff rfl (by rfl) (fun K hK => ?_)
  go_wp2_with fail
  refine hK _ _ (by go_simp) ?_
  clear hK K
  refine wpT_eff rfl (by rfl) (fun K hK => ?_)
  go_wp2_with fail
  refine hK _ _ (by go_simp) ?_
  clear hK K
  refine wpT_end ?_
  obtain ⟨V, hV⟩ : ∃ V, V = (((w.alloc (.cells #[.int .i64 0, .int .i64 (rd : Int), .int .i64 (rs1 : Int), .int .i64 (rs2 : Int), .int .u32 0] 26)).alloc (.cells #[.int .i64 0, .int .i64 0, .int .i64 0, .int .i64 0, .int .u32 0] 26)).alloc (.cells #[.int .i64 0, .int .i64 (rd : Int), .int .i64 (rs1 : Int), .int .i64 0, .int .u32 (iI : Int)] 26)).drew := ⟨_, rfl⟩
  rw [← hV]
  obtain ⟨b5, h5⟩ : ∃ b, b = w.heap.size := ⟨_, rfl⟩
  have r5 : V.row? b5 = some (insA 0 rd rs1 rs2 0) := by
    rw [hV, row_drew, row_alloc_past _ _ _ (by simp; omega), row_alloc_past _ _ _ (by simp; omega)]; exact row_alloc_at _ _ _ _ h5
  have r8 : V.row? (b5 + 1) = some (insA 0 0 0 0 0) := by
    rw [hV, row_drew, row_alloc_past _ _ _ (by simp; omega)]; exact row_alloc_at _ _ _ _ (by simp; omega)
  have r9 : V.row? (b5 + 1 + 1) = some (insA 0 rd rs1 0 iI) := by
    rw [hV, row_drew]; exact row_alloc_at _ _ _ _ (by simp; omega)
  have hVC : Chg [] w V := by rw [hV]; exact (((((Chg.refl _ _).alloc _).alloc _).alloc _).drew)
  rw [← h5]
  have HVC := Lib.hid hVC
  have H5 := Lib.hid h5
  clear hV hVC h5 HU
  have hrs : (rs2 : Int) % 4294967296 = (rs2 : Int) := by have := hrs2; omega
  have y1 : V.cell? ⟨b5, 1, none⟩ = some (.int .i64 (rd : Int)) := by rw [row_cell r5]; rfl
  have y2 : V.cell? ⟨b5, 2, none⟩ = some (.int .i64 (rs1 : Int)) := by rw [row_cell r5]; rfl
  have y3 : V.cell? ⟨b5, 3, none⟩ = some (.int .i64 (rs2 : Int)) := by rw [row_cell r5]; rfl
  obtain ⟨Z, hZ⟩ : ∃ Z, Z = V.alloc (.cells #[.int .i64 0, .int .i64 (rd : Int), .int .i64 (rs1 : Int), .int .i64 0, .int .u32 (rs2 : Int)] 26) := ⟨_, rfl⟩
  have u5 : Z.row? b5 = some (insA 0 rd rs1 rs2 0) := by rw [hZ, row_alloc_past _ _ _ (row_lt r5)]; exact r5
  have u8 : Z.row? (b5 + 1) = some (insA 0 0 0 0 0) := by rw [hZ, row_alloc_past _ _ _ (row_lt r8)]; exact r8
  have u9 : Z.row? (b5 + 1 + 1) = some (insA 0 rd rs1 0 iI) := by rw [hZ, row_alloc_past _ _ _ (row_lt r9)]; exact r9
  have ut : Z.row? V.heap.size = some #[.int .i64 0, .int .i64 (rd : Int), .int .i64 (rs1 : Int), .int .i64 0, .int .u32 (rs2 : Int)] := by rw [hZ]; exact row_alloc_at _ _ _ _ rfl
  have HZC : Hid (Chg [] w Z) := Lib.hid (by rw [hZ]; exact HVC.out.alloc _)
  obtain ⟨bt, hbt⟩ : ∃ b, b = V.heap.size := ⟨_, rfl⟩
  rw [← hbt] at ut
  go_wp2_with fail
  rw [← hbt, ← hZ]
  clear hZ hbt y1 y2 y3 r5 r8 r9 hrs
  refine wp_region_C (fun w' => w'.row? (b5 + 1 + 1) = some (insA 0 rd rs1 0 iI) ∧ w'.row? (b5 + 1) = some (insA 0 0 0 0 0)) [(0, 0), (3, 1), (1, 2), (2, 2), (4, 2), (5, 3)] rfl (by kernel_rfl) ?hSB ?hTB
  case hSB => exact ⟨u9, u8⟩
  refine wpT_pureD (v := ?_) (some 77) rfl rfl (by rfl) (fun w' => ?_) ?_
  rotate_left
  · (go_simp; try with_reducible rfl)
  try simp only [Act.put, List.setIfInBounds_toArray, List.set_cons_zero, List.set_cons_succ]
  refine wpT_load_part a26 [.int .i64 0, .int .i64 (rd : Int), .int .i64 (rs1 : Int), .int .i64 0, .int .u32 (iI : Int)] (some 80) _ rfl rfl rfl (by rfl) rfl rfl (fun w' hw j u hu => by rw [Nat.zero_add, row_cell hw.1]; simpa [insA] using hu) ?_
  try simp only [Act.put, List.setIfInBounds_toArray, List.set_cons_zero, List.set_cons_succ]
  try simp only [Act.put, List.setIfInBounds_toArray, List.set_cons_zero, List.set_cons_succ]
  refine wpT_eff rfl (by rfl) (fun K hK => ?_)
  go_wp2_with fail
  refine hK _ _ (by exact ⟨by rw [row_drew, row_alloc_past _ _ _ (row_lt u9)]; exact u9, by rw [row_drew, row_alloc_past _ _ _ (row_lt u8)]; exact u8⟩) ?_
  clear hK K
  refine wpT_eff rfl (by rfl) (fun K hK => ?_)
  obtain ⟨V2, hV2⟩ : ∃ V2, V2 = (Z.alloc (.cells #[.int .i64 19, .int .i64 0, .int .i64 20, .int .i64 21, .int .i64 22, .int .i64 0, .int .i64 23, .int .i64 24] 3)).drew := ⟨_, rfl⟩
  have q1 : V2.row? (b5 + 1 + 1) = some (insA 0 rd rs1 0 iI) := by rw [hV2, row_drew, row_alloc_past _ _ _ (row_lt u9)]; exact u9
  have q8 : V2.row? (b5 + 1) = some (insA 0 0 0 0 0) := by rw [hV2, row_drew, row_alloc_past _ _ _ (row_lt u8)]; exact u8
  have qL : V2.row? Z.heap.size = some #[.int .i64 19, .int .i64 0, .int .i64 20, .int .i64 21, .int .i64 22, .int .i64 0, .int .i64 23, .int .i64 24] := by rw [hV2, row_drew]; exact row_alloc_at _ _ _ _ rfl
  have hVC2 : Chg [] w V2 := by rw [hV2]; exact (HZC.out.alloc _).drew
  have hP := pick_any (w := V2) (B := Z.heap.size) (c := 8) [19, 0, 20, 21, 22, 0, 23, 24] rfl (fun j u hu => by rw [row_cell qL]; revert hu; match j with | 0 => intro hu; cases hu; rfl | 1 => intro hu; cases hu; rfl | 2 => intro hu; cases hu; rfl | 3 => intro hu; cases hu; rfl | 4 => intro hu; cases hu; rfl | 5 => intro hu; cases hu; rfl | 6 => intro hu; cases hu; rfl | 7 => intro hu; cases hu; rfl | _ + 8 => intro hu; cases hu) 1
  obtain ⟨op, hop⟩ : ∃ op, op = ([19, 0, 20, 21, 22, 0, 23, 24] : List Nat).getD 1 0 := ⟨_, rfl⟩
  rw [← hop] at hP
  have HOP := Lib.hid hop
  have HP := Lib.hid hP
  clear hop hP
  go_wp2_with fail
  rw [← hV2]
  have HV2 := Lib.hid hVC2
  clear hV2 hVC2
  refine HP.out.mono ?_
  rintro e w' ⟨rfl, rfl⟩
  go_wp2_with fail
  refine hK _ _ ⟨q1, q8⟩ ?_
  clear hK K
  refine wpT_eff rfl (by rfl) (fun K hK => ?_)
  have hO : Calls Tryd.prog 29 #[.int .i64 (op : Int), .agg #[.int .i64 0, .int .i64 (rd : Int), .int .i64 (rs1 : Int), .int .i64 0, .int .u32 (iI : Int)]] w' fun e w2 => e = .returned (.agg (if op = 0 then insA 0 0 0 0 0 else insA op rd rs1 0 iI)) ∧ Chg [] w' w2 := of_any op rd rs1 0 iI 0 w'
  obtain ⟨R, hR⟩ : ∃ R, R = if op = 0 then insA 0 0 0 0 0 else insA op rd rs1 0 iI := ⟨_, rfl⟩
  have hRs : R.size = 5 := by rw [hR]; split <;> rfl
  have hRa : allOne R = true := by rw [hR]; split <;> rfl
  rw [← hR] at hO
  have HO := Lib.hid hO
  have HR := Lib.hid hR
  clear hO hR
  go_wp2_with fail
  refine HO.out.mono ?_
  rintro e w2 ⟨rfl, hc2⟩
  have k8 : w2.row? (b5 + 1) = some (insA 0 0 0 0 0) := by rw [hc2.row (row_lt q8) (by simp)]; exact q8
  have k1 : w2.row? (b5 + 1 + 1) = some (insA 0 rd rs1 0 iI) := by rw [hc2.row (row_lt q1) (by simp)]; exact q1
  have HC2 : Hid (Chg [] w w2) := Lib.hid (HV2.out.trans hc2)
  clear hc2
  go_wp2_with fail
  refine hK _ _ ⟨k1, k8⟩ ?_
  clear hK K
  refine wpT_brk rfl (by rfl) (fun K hK => ?_)
  go_wp2_with (refine wpList_store_row a26 _ _ rfl rfl rfl rfl rfl k8 rfl hRs hRa ?_)
  refine wpT_end ?_
  go_wp2
  refine bodyPost_ret (ret_cell1 rfl a26 rfl (by rw [row_setRow, if_pos rfl, k8]; rfl) hRs) rfl ?_
  exact ⟨by rw [HRR.out, HR.out, HOP.out], HC2.out.setRow (Or.inr (by have := H5.out; omega)) _⟩
set_option maxHeartbeats 1600000 in
theorem more19n5 (x rd rs1 rs2 f top : Nat) (hx : x < 4294967296) (hrs2 : rs2 < 32) (hlo : x % 128 = 19) (hf : f = 5) (ht : top ≠ 0) (ht2 : top ≠ 32) (w : World) : Calls Tryd.prog 31 #[.int .u32 (x : Int), .agg (insA 0 rd rs1 rs2 0), .int .i64 (f : Int), .int .u32 (top : Int)] w fun e w' => e = .returned (.agg (if ([19, 0, 20, 21, 22, 0, 23, 24] : List Nat).getD f 0 = 0 then insA 0 0 0 0 0 else insA (([19, 0, 20, 21, 22, 0, 23, 24] : List Nat).getD f 0) rd rs1 0 (immI x))) ∧ Chg [] w w' := by
  have HU : Hid (∀ w : World, Calls Tryd.prog 16 #[.int .u32 (x : Int)] w fun e w' => e = .returned (.int .u32 (immI x : Nat)) ∧ w' = w) := Lib.hid (immI_any x hx)
  have E : bits .and .u32 (x : Int) 127 = ((x % 128 : Nat) : Int) := by
    rw [show ((127 : Int)) = ((127 : Nat) : Int) from rfl, and32 x 127 hx (by decide), show (127 : Nat) = 2 ^ 7 - 1 from rfl, and_low]
  have p0a : ((top : Int) == 0) = false := by rw [beq_eq_false_iff_ne]; omega
  have p0b : ((top : Int) = 0) = False := by simp; omega
  have p3a : ((top : Int) == 32) = false := by rw [beq_eq_false_iff_ne]; omega
  have p3b : ((top : Int) = 32) = False := by simp; omega
  clear ht ht2
  subst hf
  rw [hlo] at E
  have HX := Lib.hid hx
  obtain ⟨iI, hiI⟩ : ∃ y, y = immI x := ⟨_, rfl⟩
  rw [← hiI] at HU
  try rw [← hiI]
  have HII := Lib.hid hiI
  clear hx hlo hiI
  obtain ⟨RR, hRR⟩ : ∃ RR, RR = if ([19, 0, 20, 21, 22, 0, 23, 24] : List Nat).getD 5 0 = 0 then insA 0 0 0 0 0 else insA (([19, 0, 20, 21, 22, 0, 23, 24] : List Nat).getD 5 0) rd rs1 0 (iI) := ⟨_, rfl⟩
  rw [← hRR]
  have HRR := Lib.hid hRR
  clear hRR
  rw [show insA 0 rd rs1 rs2 0 = #[.int .i64 0, .int .i64 (rd : Int), .int .i64 (rs1 : Int), .int .i64 (rs2 : Int), .int .u32 0] from rfl]
  go_enter Tryd.func31, Tryd.ntmps31
  go_wp2_with fail
  refine wp_region_C (fun w' => w'.cell? ⟨w.heap.size, 1, none⟩ = some (.int .i64 (rd : Int)) ∧ w'.cell? ⟨w.heap.size, 2, none⟩ = some (.int .i64 (rs1 : Int))) [(0, 0), (1, 1), (2, 0), (3, 1), (4, 0), (5, 0), (6, 0), (7, 2), (8, 2)] rfl (by kernel_rfl) ?hSA ?hTA
  case hSA => simp
  refine wpT_pureD (v := ?_) (some 11) rfl rfl (by rfl) (fun w' => ?_) ?_
  rotate_left
  · (go_simp; try with_reducible rfl)
  try simp only [Act.put, List.setIfInBounds_toArray, List.set_cons_zero, List.set_cons_succ]
  refine wpT_readD (v := ?_) (some 12) rfl rfl (by rfl) (fun w' hw => ?_) ?_
  rotate_left
  · (obtain ⟨q0, q1⟩ := hw; go_simp; try with_reducible rfl)
  try simp only [Act.put, List.setIfInBounds_toArray, List.set_cons_zero, List.set_cons_succ]
  refine wpT_pureD (v := ?_) (some 13) rfl rfl (by rfl) (fun w' => ?_) ?_
  rotate_left
  · (go_simp; try with_reducible rfl)
  try simp only [Act.put, List.setIfInBounds_toArray, List.set_cons_zero, List.set_cons_succ]
  refine wpT_readD (v := ?_) (some 14) rfl rfl (by rfl) (fun w' hw => ?_) ?_
  rotate_left
  · (obtain ⟨q0, q1⟩ := hw; go_simp; try with_reducible rfl)
  try simp only [Act.put, List.setIfInBounds_toArray, List.set_cons_zero, List.set_cons_succ]
  refine wpT_pureD (v := ?_) (some 15) rfl rfl (by rfl) (fun w' => ?_) ?_
  rotate_left
  · (go_simp; try with_reducible rfl)
  try simp only [Act.put, List.setIfInBounds_toArray, List.set_cons_zero, List.set_cons_succ]
  refine wpT_call (d := some 16) (f := 16) (args := #[.int .u32 (x : Int)]) (v := .int .u32 (iI : Int)) rfl rfl (by rfl) (fun w' => by first | rfl | go_simp) (fun w' => HU.out w') ?_
  try simp only [Act.put, List.setIfInBounds_toArray, List.set_cons_zero, List.set_cons_succ]
  try simp only [Act.put, List.setIfInBounds_toArray, List.set_cons_zero, List.set_cons_succ]
  refine wpT_pureD (v := ?_) (some 17) rfl rfl (by rfl) (fun w' => ?_) ?_
  rotate_left
  · (go_simp; try with_reducible rfl)
  try simp only [Act.put, List.setIfInBounds_toArray, List.set_cons_zero, List.set_cons_succ]
  refine wpT_eff rfl (by rfl) (fun K hK => ?_)
  go_wp2_with fail
  refine hK _ _ (by go_simp) ?_
  clear hK K
  refine wpT_eff rfl (by rfl) (fun K hK => ?_)
  go_wp2_with fail
  refine hK _ _ (by go_simp) ?_
  clear hK K
  refine wpT_end ?_
  obtain ⟨V, hV⟩ : ∃ V, V = (((w.alloc (.cells #[.int .i64 0, .int .i64 (rd : Int), .int .i64 (rs1 : Int), .int .i64 (rs2 : Int), .int .u32 0] 26)).alloc (.cells #[.int .i64 0, .int .i64 0, .int .i64 0, .int .i64 0, .int .u32 0] 26)).alloc (.cells #[.int .i64 0, .int .i64 (rd : Int), .int .i64 (rs1 : Int), .int .i64 0, .int .u32 (iI : Int)] 26)).drew := ⟨_, rfl⟩
  rw [← hV]
  obtain ⟨b5, h5⟩ : ∃ b, b = w.heap.size := ⟨_, rfl⟩
  have r5 : V.row? b5 = some (insA 0 rd rs1 rs2 0) := by
    rw [hV, row_drew, row_alloc_past _ _ _ (by simp; omega), row_alloc_past _ _ _ (by simp; omega)]; exact row_alloc_at _ _ _ _ h5
  have r8 : V.row? (b5 + 1) = some (insA 0 0 0 0 0) := by
    rw [hV, row_drew, row_alloc_past _ _ _ (by simp; omega)]; exact row_alloc_at _ _ _ _ (by simp; omega)
  have r9 : V.row? (b5 + 1 + 1) = some (insA 0 rd rs1 0 iI) := by
    rw [hV, row_drew]; exact row_alloc_at _ _ _ _ (by simp; omega)
  have hVC : Chg [] w V := by rw [hV]; exact (((((Chg.refl _ _).alloc _).alloc _).alloc _).drew)
  rw [← h5]
  have HVC := Lib.hid hVC
  have H5 := Lib.hid h5
  clear hV hVC h5 HU
  have hrs : (rs2 : Int) % 4294967296 = (rs2 : Int) := by have := hrs2; omega
  have y1 : V.cell? ⟨b5, 1, none⟩ = some (.int .i64 (rd : Int)) := by rw [row_cell r5]; rfl
  have y2 : V.cell? ⟨b5, 2, none⟩ = some (.int .i64 (rs1 : Int)) := by rw [row_cell r5]; rfl
  have y3 : V.cell? ⟨b5, 3, none⟩ = some (.int .i64 (rs2 : Int)) := by rw [row_cell r5]; rfl
  obtain ⟨Z, hZ⟩ : ∃ Z, Z = V.alloc (.cells #[.int .i64 0, .int .i64 (rd : Int), .int .i64 (rs1 : Int), .int .i64 0, .int .u32 (rs2 : Int)] 26) := ⟨_, rfl⟩
  have u5 : Z.row? b5 = some (insA 0 rd rs1 rs2 0) := by rw [hZ, row_alloc_past _ _ _ (row_lt r5)]; exact r5
  have u8 : Z.row? (b5 + 1) = some (insA 0 0 0 0 0) := by rw [hZ, row_alloc_past _ _ _ (row_lt r8)]; exact r8
  have u9 : Z.row? (b5 + 1 + 1) = some (insA 0 rd rs1 0 iI) := by rw [hZ, row_alloc_past _ _ _ (row_lt r9)]; exact r9
  have ut : Z.row? V.heap.size = some #[.int .i64 0, .int .i64 (rd : Int), .int .i64 (rs1 : Int), .int .i64 0, .int .u32 (rs2 : Int)] := by rw [hZ]; exact row_alloc_at _ _ _ _ rfl
  have HZC : Hid (Chg [] w Z) := Lib.hid (by rw [hZ]; exact HVC.out.alloc _)
  obtain ⟨bt, hbt⟩ : ∃ b, b = V.heap.size := ⟨_, rfl⟩
  rw [← hbt] at ut
  go_wp2_with fail
  rw [← hbt, ← hZ]
  clear hZ hbt y1 y2 y3 r5 r8 r9 hrs
  refine wp_region_C (fun w' => w'.row? (b5 + 1 + 1) = some (insA 0 rd rs1 0 iI) ∧ w'.row? (b5 + 1) = some (insA 0 0 0 0 0)) [(0, 0), (3, 1), (1, 2), (2, 2), (4, 2), (5, 3)] rfl (by kernel_rfl) ?hSB ?hTB
  case hSB => exact ⟨u9, u8⟩
  refine wpT_pureD (v := ?_) (some 77) rfl rfl (by rfl) (fun w' => ?_) ?_
  rotate_left
  · (go_simp; try with_reducible rfl)
  try simp only [Act.put, List.setIfInBounds_toArray, List.set_cons_zero, List.set_cons_succ]
  refine wpT_load_part a26 [.int .i64 0, .int .i64 (rd : Int), .int .i64 (rs1 : Int), .int .i64 0, .int .u32 (iI : Int)] (some 80) _ rfl rfl rfl (by rfl) rfl rfl (fun w' hw j u hu => by rw [Nat.zero_add, row_cell hw.1]; simpa [insA] using hu) ?_
  try simp only [Act.put, List.setIfInBounds_toArray, List.set_cons_zero, List.set_cons_succ]
  try simp only [Act.put, List.setIfInBounds_toArray, List.set_cons_zero, List.set_cons_succ]
  refine wpT_eff rfl (by rfl) (fun K hK => ?_)
  go_wp2_with fail
  refine hK _ _ (by exact ⟨by rw [row_drew, row_alloc_past _ _ _ (row_lt u9)]; exact u9, by rw [row_drew, row_alloc_past _ _ _ (row_lt u8)]; exact u8⟩) ?_
  clear hK K
  refine wpT_eff rfl (by rfl) (fun K hK => ?_)
  obtain ⟨V2, hV2⟩ : ∃ V2, V2 = (Z.alloc (.cells #[.int .i64 19, .int .i64 0, .int .i64 20, .int .i64 21, .int .i64 22, .int .i64 0, .int .i64 23, .int .i64 24] 3)).drew := ⟨_, rfl⟩
  have q1 : V2.row? (b5 + 1 + 1) = some (insA 0 rd rs1 0 iI) := by rw [hV2, row_drew, row_alloc_past _ _ _ (row_lt u9)]; exact u9
  have q8 : V2.row? (b5 + 1) = some (insA 0 0 0 0 0) := by rw [hV2, row_drew, row_alloc_past _ _ _ (row_lt u8)]; exact u8
  have qL : V2.row? Z.heap.size = some #[.int .i64 19, .int .i64 0, .int .i64 20, .int .i64 21, .int .i64 22, .int .i64 0, .int .i64 23, .int .i64 24] := by rw [hV2, row_drew]; exact row_alloc_at _ _ _ _ rfl
  have hVC2 : Chg [] w V2 := by rw [hV2]; exact (HZC.out.alloc _).drew
  have hP := pick_any (w := V2) (B := Z.heap.size) (c := 8) [19, 0, 20, 21, 22, 0, 23, 24] rfl (fun j u hu => by rw [row_cell qL]; revert hu; match j with | 0 => intro hu; cases hu; rfl | 1 => intro hu; cases hu; rfl | 2 => intro hu; cases hu; rfl | 3 => intro hu; cases hu; rfl | 4 => intro hu; cases hu; rfl | 5 => intro hu; cases hu; rfl | 6 => intro hu; cases hu; rfl | 7 => intro hu; cases hu; rfl | _ + 8 => intro hu; cases hu) 5
  obtain ⟨op, hop⟩ : ∃ op, op = ([19, 0, 20, 21, 22, 0, 23, 24] : List Nat).getD 5 0 := ⟨_, rfl⟩
  rw [← hop] at hP
  have HOP := Lib.hid hop
  have HP := Lib.hid hP
  clear hop hP
  go_wp2_with fail
  rw [← hV2]
  have HV2 := Lib.hid hVC2
  clear hV2 hVC2
  refine HP.out.mono ?_
  rintro e w' ⟨rfl, rfl⟩
  go_wp2_with fail
  refine hK _ _ ⟨q1, q8⟩ ?_
  clear hK K
  refine wpT_eff rfl (by rfl) (fun K hK => ?_)
  have hO : Calls Tryd.prog 29 #[.int .i64 (op : Int), .agg #[.int .i64 0, .int .i64 (rd : Int), .int .i64 (rs1 : Int), .int .i64 0, .int .u32 (iI : Int)]] w' fun e w2 => e = .returned (.agg (if op = 0 then insA 0 0 0 0 0 else insA op rd rs1 0 iI)) ∧ Chg [] w' w2 := of_any op rd rs1 0 iI 0 w'
  obtain ⟨R, hR⟩ : ∃ R, R = if op = 0 then insA 0 0 0 0 0 else insA op rd rs1 0 iI := ⟨_, rfl⟩
  have hRs : R.size = 5 := by rw [hR]; split <;> rfl
  have hRa : allOne R = true := by rw [hR]; split <;> rfl
  rw [← hR] at hO
  have HO := Lib.hid hO
  have HR := Lib.hid hR
  clear hO hR
  go_wp2_with fail
  refine HO.out.mono ?_
  rintro e w2 ⟨rfl, hc2⟩
  have k8 : w2.row? (b5 + 1) = some (insA 0 0 0 0 0) := by rw [hc2.row (row_lt q8) (by simp)]; exact q8
  have k1 : w2.row? (b5 + 1 + 1) = some (insA 0 rd rs1 0 iI) := by rw [hc2.row (row_lt q1) (by simp)]; exact q1
  have HC2 : Hid (Chg [] w w2) := Lib.hid (HV2.out.trans hc2)
  clear hc2
  go_wp2_with fail
  refine hK _ _ ⟨k1, k8⟩ ?_
  clear hK K
  refine wpT_brk rfl (by rfl) (fun K hK => ?_)
  go_wp2_with (refine wpList_store_row a26 _ _ rfl rfl rfl rfl rfl k8 rfl hRs hRa ?_)
  refine wpT_end ?_
  go_wp2
  refine bodyPost_ret (ret_cell1 rfl a26 rfl (by rw [row_setRow, if_pos rfl, k8]; rfl) hRs) rfl ?_
  exact ⟨by rw [HRR.out, HR.out, HOP.out], HC2.out.setRow (Or.inr (by have := H5.out; omega)) _⟩
end Go.Proofs.L
