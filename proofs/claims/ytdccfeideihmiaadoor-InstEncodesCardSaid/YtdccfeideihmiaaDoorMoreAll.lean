/- Proved here: lemmas and contracts (MoreAll) for the laws of this seat, for all values of the stated types; no further condition. -/
import Derived.Test.YtdccfeideihmiaaDoorMore
import Derived.Test.YtdccfeideihmiaaDoorMoreB
import Derived.Test.YtdccfeideihmiaaDoorSystem
open Go Go.RowKit Go.Lib
namespace Go.Proofs.L
/-- an instruction's five numbers -/
structure I5 where
  op : Nat
  rd : Nat
  rs1 : Nat
  rs2 : Nat
  imm : Nat
  deriving DecidableEq
def I5.A (i : I5) : Array Value := insA i.op i.rd i.rs1 i.rs2 i.imm
def noI : I5 := ⟨0, 0, 0, 0, 0⟩
def ofI (op rd rs1 rs2 imm : Nat) : I5 := if op = 0 then noI else ⟨op, rd, rs1, rs2, imm⟩
theorem ofI_A (op rd rs1 rs2 imm : Nat) : (if op = 0 then insA 0 0 0 0 0 else insA op rd rs1 rs2 imm) = (ofI op rd rs1 rs2 imm).A := by
  unfold ofI; split <;> rfl
theorem I5.A_size (i : I5) : i.A.size = 5 := rfl
theorem I5.A_all (i : I5) : allOne i.A = true := rfl
def sysN (x rd rs1 f : Nat) : I5 := if x = 115 then ⟨47, 0, 0, 0, 0⟩ else if x = 1048691 then ⟨48, 0, 0, 0, 0⟩ else if x = 807403635 then ⟨49, 0, 0, 0, 0⟩ else if x = 273678451 then ⟨50, 0, 0, 0, 0⟩ else ofI (([0, 51, 52, 53, 0, 54, 55, 56] : List Nat).getD f 0) rd rs1 0 (x / 1048576)
def moreN (x rd rs1 rs2 f top : Nat) : I5 :=
  if x % 128 = 3 then ofI (([11, 12, 13, 0, 14, 15] : List Nat).getD f 0) rd rs1 0 (immI x)
  else if x % 128 = 35 then ofI (([16, 17, 18] : List Nat).getD f 0) 0 rs1 rs2 (immS x)
  else if x % 128 = 19 then (if f = 1 ∧ top = 0 then ⟨25, rd, rs1, 0, rs2⟩ else if f = 5 ∧ top = 0 then ⟨26, rd, rs1, 0, rs2⟩ else if f = 5 ∧ top = 32 then ⟨27, rd, rs1, 0, rs2⟩ else ofI (([19, 0, 20, 21, 22, 0, 23, 24] : List Nat).getD f 0) rd rs1 0 (immI x))
  else if x % 128 = 51 then (if top = 0 then ofI (([28, 30, 31, 32, 33, 34, 36, 37] : List Nat).getD f 0) rd rs1 rs2 0 else if top = 1 then ofI (([38, 39, 40, 41, 42, 43, 44, 45] : List Nat).getD f 0) rd rs1 rs2 0 else if top = 32 then ofI (([29, 0, 0, 0, 0, 35] : List Nat).getD f 0) rd rs1 rs2 0 else noI)
  else if x % 128 = 15 then (if f = 0 then ⟨46, 0, 0, 0, 0⟩ else noI)
  else if x % 128 = 115 then sysN x rd rs1 f
  else noI
theorem sys_any (x rd rs1 rs2 f : Nat) (hx : x < 4294967296) (w : World) : Calls Tryd.prog 38 #[.int .u32 (x : Int), .agg (insA 0 rd rs1 rs2 0), .int .i64 (f : Int)] w fun e w' => e = .returned (.agg (sysN x rd rs1 f).A) ∧ Chg [] w w' := by
  unfold sysN
  by_cases h1 : x = 115
  · rw [if_pos h1]; exact sys47 x rd rs1 rs2 f hx h1 w
  by_cases h2 : x = 1048691
  · rw [if_neg h1, if_pos h2]; exact sys48 x rd rs1 rs2 f hx h2 w
  by_cases h3 : x = 807403635
  · rw [if_neg h1, if_neg h2, if_pos h3]; exact sys49 x rd rs1 rs2 f hx h3 w
  by_cases h4 : x = 273678451
  · rw [if_neg h1, if_neg h2, if_neg h3, if_pos h4]; exact sys50 x rd rs1 rs2 f hx h4 w
  rw [if_neg h1, if_neg h2, if_neg h3, if_neg h4, ← ofI_A]
  exact sysElse x rd rs1 rs2 f hx h1 h2 h3 h4 w
set_option maxHeartbeats 1600000 in
theorem more115 (x rd rs1 rs2 f top : Nat) (hx : x < 4294967296) (hlo : x % 128 = 115) (w : World) : Calls Tryd.prog 31 #[.int .u32 (x : Int), .agg (insA 0 rd rs1 rs2 0), .int .i64 (f : Int), .int .u32 (top : Int)] w fun e w' => e = .returned (.agg ((sysN x rd rs1 f).A)) ∧ Chg [] w w' := by
  have HU : Hid (∀ w : World, Calls Tryd.prog 16 #[.int .u32 (x : Int)] w fun e w' => e = .returned (.int .u32 (immI x : Nat)) ∧ w' = w) := Lib.hid (immI_any x hx)
  have E : bits .and .u32 (x : Int) 127 = ((x % 128 : Nat) : Int) := by
    rw [show ((127 : Int)) = ((127 : Nat) : Int) from rfl, and32 x 127 hx (by decide), show (127 : Nat) = 2 ^ 7 - 1 from rfl, and_low]
  rw [hlo] at E
  have HX := Lib.hid hx
  obtain ⟨iI, hiI⟩ : ∃ y, y = immI x := ⟨_, rfl⟩
  rw [← hiI] at HU
  try rw [← hiI]
  have HII := Lib.hid hiI
  clear hx hlo hiI
  obtain ⟨RR, hRR⟩ : ∃ RR, RR = (sysN x rd rs1 f).A := ⟨_, rfl⟩
  rw [← hRR]
  have HRR := Lib.hid hRR
  clear hRR
  rw [show insA 0 rd rs1 rs2 0 = #[.int .i64 0, .int .i64 (rd : Int), .int .i64 (rs1 : Int), .int .i64 (rs2 : Int), .int .u32 0] from rfl]
  go_enter Tryd.func31, Tryd.ntmps31
  go_wp2_with fail
  refine wp_region_C (fun w' => w'.cell? ⟨w.heap.size, 1, none⟩ = some (.int .i64 (rd : Int)) ∧ w'.cell? ⟨w.heap.size, 2, none⟩ = some (.int .i64 (rs1 : Int))) [(0, 0), (1, 1), (2, 0), (3, 1), (4, 0), (5, 0), (6, 0), (7, 2), (8, 2)] rfl (by kernel_rfl) ?hSA ?hTA
  case hSA => simp
  refine wpT_pureD (v := ?_) (some 11) rfl rfl (by rfl) (fun w' => ?_) ?_
  rotate_left
  · (go_simp; try with_reducible rfl)
  try simp only [Act.put, List.setIfInBounds_toArray, List.set_cons_zero, List.set_cons_succ]
  refine wpT_readD (v := ?_) (some 12) rfl rfl (by rfl) (fun w' hw => ?_) ?_
  rotate_left
  · (obtain ⟨q0, q1⟩ := hw; go_simp; try with_reducible rfl)
  try simp only [Act.put, List.setIfInBounds_toArray, List.set_cons_zero, List.set_cons_succ]
  refine wpT_pureD (v := ?_) (some 13) rfl rfl (by rfl) (fun w' => ?_) ?_
  rotate_left
  · (go_simp; try with_reducible rfl)
  try simp only [Act.put, List.setIfInBounds_toArray, List.set_cons_zero, List.set_cons_succ]
  refine wpT_readD (v := ?_) (some 14) rfl rfl (by rfl) (fun w' hw => ?_) ?_
  rotate_left
  · (obtain ⟨q0, q1⟩ := hw; go_simp; try with_reducible rfl)
  try simp only [Act.put, List.setIfInBounds_toArray, List.set_cons_zero, List.set_cons_succ]
  refine wpT_pureD (v := ?_) (some 15) rfl rfl (by rfl) (fun w' => ?_) ?_
  rotate_left
  · (go_simp; try with_reducible rfl)
  try simp only [Act.put, List.setIfInBounds_toArray, List.set_cons_zero, List.set_cons_succ]
  refine wpT_call (d := some 16) (f := 16) (args := #[.int .u32 (x : Int)]) (v := .int .u32 (iI : Int)) rfl rfl (by rfl) (fun w' => by first | rfl | go_simp) (fun w' => HU.out w') ?_
  try simp only [Act.put, List.setIfInBounds_toArray, List.set_cons_zero, List.set_cons_succ]
  try simp only [Act.put, List.setIfInBounds_toArray, List.set_cons_zero, List.set_cons_succ]
  refine wpT_pureD (v := ?_) (some 17) rfl rfl (by rfl) (fun w' => ?_) ?_
  rotate_left
  · (go_simp; try with_reducible rfl)
  try simp only [Act.put, List.setIfInBounds_toArray, List.set_cons_zero, List.set_cons_succ]
  refine wpT_eff rfl (by rfl) (fun K hK => ?_)
  go_wp2_with fail
  refine hK _ _ (by go_simp) ?_
  clear hK K
  refine wpT_eff rfl (by rfl) (fun K hK => ?_)
  go_wp2_with fail
  refine hK _ _ (by go_simp) ?_
  clear hK K
  refine wpT_end ?_
  obtain ⟨V, hV⟩ : ∃ V, V = (((w.alloc (.cells #[.int .i64 0, .int .i64 (rd : Int), .int .i64 (rs1 : Int), .int .i64 (rs2 : Int), .int .u32 0] 26)).alloc (.cells #[.int .i64 0, .int .i64 0, .int .i64 0, .int .i64 0, .int .u32 0] 26)).alloc (.cells #[.int .i64 0, .int .i64 (rd : Int), .int .i64 (rs1 : Int), .int .i64 0, .int .u32 (iI : Int)] 26)).drew := ⟨_, rfl⟩
  rw [← hV]
  obtain ⟨b5, h5⟩ : ∃ b, b = w.heap.size := ⟨_, rfl⟩
  have r5 : V.row? b5 = some (insA 0 rd rs1 rs2 0) := by
    rw [hV, row_drew, row_alloc_past _ _ _ (by simp; omega), row_alloc_past _ _ _ (by simp; omega)]; exact row_alloc_at _ _ _ _ h5
  have r8 : V.row? (b5 + 1) = some (insA 0 0 0 0 0) := by
    rw [hV, row_drew, row_alloc_past _ _ _ (by simp; omega)]; exact row_alloc_at _ _ _ _ (by simp; omega)
  have r9 : V.row? (b5 + 1 + 1) = some (insA 0 rd rs1 0 iI) := by
    rw [hV, row_drew]; exact row_alloc_at _ _ _ _ (by simp; omega)
  have hVC : Chg [] w V := by rw [hV]; exact (((((Chg.refl _ _).alloc _).alloc _).alloc _).drew)
  rw [← h5]
  have HVC := Lib.hid hVC
  have H5 := Lib.hid h5
  clear hV hVC h5 HU
  have hO := sys_any x rd rs1 rs2 f HX.out V
  have hRs := I5.A_size (sysN x rd rs1 f)
  have hRa := I5.A_all (sysN x rd rs1 f)
  obtain ⟨R, hR⟩ : ∃ R, R = (sysN x rd rs1 f).A := ⟨_, rfl⟩
  rw [← hR] at hO hRs hRa
  have HR := Lib.hid hR
  have HO := Lib.hid (show Calls Tryd.prog 38 #[.int .u32 (x : Int), .agg #[.int .i64 0, .int .i64 (rd : Int), .int .i64 (rs1 : Int), .int .i64 (rs2 : Int), .int .u32 0], .int .i64 (f : Int)] V fun e w' => e = .returned (.agg R) ∧ Chg [] V w' from hO)
  have HR5 := Lib.hid r5
  have HR8 := Lib.hid r8
  clear hO hR r5 r8 r9
  go_wp2_with (refine wpList_load_part a26 [.int .i64 0, .int .i64 (rd : Int), .int .i64 (rs1 : Int), .int .i64 (rs2 : Int), .int .u32 0] rfl _ rfl rfl rfl (fun j u hu => by rw [Nat.zero_add, row_cell HR5.out]; simpa [insA] using hu) ?_)
  refine HO.out.mono ?_
  rintro e w2 ⟨rfl, hc2⟩
  have k8 : w2.row? (b5 + 1) = some (insA 0 0 0 0 0) := by rw [hc2.row (row_lt HR8.out) (by simp)]; exact HR8.out
  have HC2 : Hid (Chg [] w w2) := Lib.hid (HVC.out.trans hc2)
  clear hc2
  go_wp2_with (refine wpList_store_row a26 _ _ rfl rfl rfl rfl rfl k8 rfl hRs hRa ?_)
  refine bodyPost_ret (ret_cell1 rfl a26 rfl (by rw [row_setRow, if_pos rfl, k8]; rfl) hRs) rfl ?_
  exact ⟨by rw [HRR.out, HR.out], HC2.out.setRow (Or.inr (by have := H5.out; omega)) _⟩
set_option maxHeartbeats 1600000 in
theorem more51n (x rd rs1 rs2 f top : Nat) (hx : x < 4294967296) (hlo : x % 128 = 51) (ht : top ≠ 0) (ht1 : top ≠ 1) (ht32 : top ≠ 32) (w : World) : Calls Tryd.prog 31 #[.int .u32 (x : Int), .agg (insA 0 rd rs1 rs2 0), .int .i64 (f : Int), .int .u32 (top : Int)] w fun e w' => e = .returned (.agg (insA 0 0 0 0 0)) ∧ Chg [] w w' := by
  have HU : Hid (∀ w : World, Calls Tryd.prog 16 #[.int .u32 (x : Int)] w fun e w' => e = .returned (.int .u32 (immI x : Nat)) ∧ w' = w) := Lib.hid (immI_any x hx)
  have E : bits .and .u32 (x : Int) 127 = ((x % 128 : Nat) : Int) := by
    rw [show ((127 : Int)) = ((127 : Nat) : Int) from rfl, and32 x 127 hx (by decide), show (127 : Nat) = 2 ^ 7 - 1 from rfl, and_low]
  have t0a : ((top : Int) == 0) = false := by rw [beq_eq_false_iff_ne]; omega
  have t0b : ((top : Int) = 0) = False := by simp; omega
  have t1a : ((top : Int) == 1) = false := by rw [beq_eq_false_iff_ne]; omega
  have t1b : ((top : Int) = 1) = False := by simp; omega
  have t32a : ((top : Int) == 32) = false := by rw [beq_eq_false_iff_ne]; omega
  have t32b : ((top : Int) = 32) = False := by simp; omega
  clear ht ht1 ht32
  rw [hlo] at E
  have HX := Lib.hid hx
  obtain ⟨iI, hiI⟩ : ∃ y, y = immI x := ⟨_, rfl⟩
  rw [← hiI] at HU
  try rw [← hiI]
  have HII := Lib.hid hiI
  clear hx hlo hiI
  obtain ⟨RR, hRR⟩ : ∃ RR, RR = insA 0 0 0 0 0 := ⟨_, rfl⟩
  rw [← hRR]
  have HRR := Lib.hid hRR
  clear hRR
  rw [show insA 0 rd rs1 rs2 0 = #[.int .i64 0, .int .i64 (rd : Int), .int .i64 (rs1 : Int), .int .i64 (rs2 : Int), .int .u32 0] from rfl]
  go_enter Tryd.func31, Tryd.ntmps31
  go_wp2_with fail
  refine wp_region_C (fun w' => w'.cell? ⟨w.heap.size, 1, none⟩ = some (.int .i64 (rd : Int)) ∧ w'.cell? ⟨w.heap.size, 2, none⟩ = some (.int .i64 (rs1 : Int))) [(0, 0), (1, 1), (2, 0), (3, 1), (4, 0), (5, 0), (6, 0), (7, 2), (8, 2)] rfl (by kernel_rfl) ?hSA ?hTA
  case hSA => simp
  refine wpT_pureD (v := ?_) (some 11) rfl rfl (by rfl) (fun w' => ?_) ?_
  rotate_left
  · (go_simp; try with_reducible rfl)
  try simp only [Act.put, List.setIfInBounds_toArray, List.set_cons_zero, List.set_cons_succ]
  refine wpT_readD (v := ?_) (some 12) rfl rfl (by rfl) (fun w' hw => ?_) ?_
  rotate_left
  · (obtain ⟨q0, q1⟩ := hw; go_simp; try with_reducible rfl)
  try simp only [Act.put, List.setIfInBounds_toArray, List.set_cons_zero, List.set_cons_succ]
  refine wpT_pureD (v := ?_) (some 13) rfl rfl (by rfl) (fun w' => ?_) ?_
  rotate_left
  · (go_simp; try with_reducible rfl)
  try simp only [Act.put, List.setIfInBounds_toArray, List.set_cons_zero, List.set_cons_succ]
  refine wpT_readD (v := ?_) (some 14) rfl rfl (by rfl) (fun w' hw => ?_) ?_
  rotate_left
  · (obtain ⟨q0, q1⟩ := hw; go_simp; try with_reducible rfl)
  try simp only [Act.put, List.setIfInBounds_toArray, List.set_cons_zero, List.set_cons_succ]
  refine wpT_pureD (v := ?_) (some 15) rfl rfl (by rfl) (fun w' => ?_) ?_
  rotate_left
  · (go_simp; try with_reducible rfl)
  try simp only [Act.put, List.setIfInBounds_toArray, List.set_cons_zero, List.set_cons_succ]
  refine wpT_call (d := some 16) (f := 16) (args := #[.int .u32 (x : Int)]) (v := .int .u32 (iI : Int)) rfl rfl (by rfl) (fun w' => by first | rfl | go_simp) (fun w' => HU.out w') ?_
  try simp only [Act.put, List.setIfInBounds_toArray, List.set_cons_zero, List.set_cons_succ]
  try simp only [Act.put, List.setIfInBounds_toArray, List.set_cons_zero, List.set_cons_succ]
  refine wpT_pureD (v := ?_) (some 17) rfl rfl (by rfl) (fun w' => ?_) ?_
  rotate_left
  · (go_simp; try with_reducible rfl)
  try simp only [Act.put, List.setIfInBounds_toArray, List.set_cons_zero, List.set_cons_succ]
  refine wpT_eff rfl (by rfl) (fun K hK => ?_)
  go_wp2_with fail
  refine hK _ _ (by go_simp) ?_
  clear hK K
  refine wpT_eff rfl (by rfl) (fun K hK => ?_)
  go_wp2_with fail
  refine hK _ _ (by go_simp) ?_
  clear hK K
  refine wpT_end ?_
  obtain ⟨V, hV⟩ : ∃ V, V = (((w.alloc (.cells #[.int .i64 0, .int .i64 (rd : Int), .int .i64 (rs1 : Int), .int .i64 (rs2 : Int), .int .u32 0] 26)).alloc (.cells #[.int .i64 0, .int .i64 0, .int .i64 0, .int .i64 0, .int .u32 0] 26)).alloc (.cells #[.int .i64 0, .int .i64 (rd : Int), .int .i64 (rs1 : Int), .int .i64 0, .int .u32 (iI : Int)] 26)).drew := ⟨_, rfl⟩
  rw [← hV]
  obtain ⟨b5, h5⟩ : ∃ b, b = w.heap.size := ⟨_, rfl⟩
  have r5 : V.row? b5 = some (insA 0 rd rs1 rs2 0) := by
    rw [hV, row_drew, row_alloc_past _ _ _ (by simp; omega), row_alloc_past _ _ _ (by simp; omega)]; exact row_alloc_at _ _ _ _ h5
  have r8 : V.row? (b5 + 1) = some (insA 0 0 0 0 0) := by
    rw [hV, row_drew, row_alloc_past _ _ _ (by simp; omega)]; exact row_alloc_at _ _ _ _ (by simp; omega)
  have r9 : V.row? (b5 + 1 + 1) = some (insA 0 rd rs1 0 iI) := by
    rw [hV, row_drew]; exact row_alloc_at _ _ _ _ (by simp; omega)
  have hVC : Chg [] w V := by rw [hV]; exact (((((Chg.refl _ _).alloc _).alloc _).alloc _).drew)
  rw [← h5]
  have HVC := Lib.hid hVC
  have H5 := Lib.hid h5
  clear hV hVC h5 HU
  have r8c := row_cell r8
  go_wp2_with (refine wpList_store_row a26 _ _ rfl rfl rfl rfl rfl r8 rfl rfl rfl ?_)
  refine bodyPost_ret (ret_cell1 rfl a26 rfl (by rw [row_setRow, if_pos rfl, r8]; rfl) rfl) rfl ?_
  exact ⟨by rw [HRR.out]; rfl, HVC.out.setRow (Or.inr (by have := H5.out; omega)) _⟩
theorem more_any (x rd rs1 rs2 f top : Nat) (hx : x < 4294967296) (hr : rs2 < 32) (w : World) : Calls Tryd.prog 31 #[.int .u32 (x : Int), .agg (insA 0 rd rs1 rs2 0), .int .i64 (f : Int), .int .u32 (top : Int)] w fun e w' => e = .returned (.agg (moreN x rd rs1 rs2 f top).A) ∧ Chg [] w w' := by
  unfold moreN
  by_cases h3 : x % 128 = 3
  · rw [if_pos h3, ← ofI_A]; exact more3 x rd rs1 rs2 f top hx h3 w
  by_cases h35 : x % 128 = 35
  · rw [if_neg h3, if_pos h35, ← ofI_A]; exact more35 x rd rs1 rs2 f top hx h35 w
  by_cases h19 : x % 128 = 19
  · rw [if_neg h3, if_neg h35, if_pos h19]
    by_cases f1 : f = 1
    · by_cases t0 : top = 0
      · rw [if_pos ⟨f1, t0⟩]; exact more19l x rd rs1 rs2 f top hx hr h19 f1 t0 w
      · rw [if_neg (fun h => t0 h.2), if_neg (fun h => t0 h.2), if_neg (fun h => by omega), ← ofI_A]; exact more19n1 x rd rs1 rs2 f top hx hr h19 f1 t0 w
    · rw [if_neg (fun h => f1 h.1)]
      by_cases f5 : f = 5
      · by_cases t0 : top = 0
        · rw [if_pos ⟨f5, t0⟩]; exact more19r x rd rs1 rs2 f top hx hr h19 f5 t0 w
        · by_cases t32 : top = 32
          · rw [if_neg (fun h => t0 h.2), if_pos ⟨f5, t32⟩]; exact more19a x rd rs1 rs2 f top hx hr h19 f5 t32 w
          · rw [if_neg (fun h => t0 h.2), if_neg (fun h => t32 h.2), ← ofI_A]; exact more19n5 x rd rs1 rs2 f top hx hr h19 f5 t0 t32 w
      · rw [if_neg (fun h => f5 h.1), if_neg (fun h => f5 h.1), ← ofI_A]; exact more19n x rd rs1 rs2 f top hx hr h19 f1 f5 w
  by_cases h51 : x % 128 = 51
  · rw [if_neg h3, if_neg h35, if_neg h19, if_pos h51]
    by_cases t0 : top = 0
    · rw [if_pos t0, ← ofI_A]; exact more51a x rd rs1 rs2 f top hx h51 t0 w
    by_cases t1 : top = 1
    · rw [if_neg t0, if_pos t1, ← ofI_A]; exact more51m x rd rs1 rs2 f top hx h51 t1 w
    by_cases t32 : top = 32
    · rw [if_neg t0, if_neg t1, if_pos t32, ← ofI_A]; exact more51s x rd rs1 rs2 f top hx h51 t32 w
    rw [if_neg t0, if_neg t1, if_neg t32]; exact more51n x rd rs1 rs2 f top hx h51 t0 t1 t32 w
  by_cases h15 : x % 128 = 15
  · rw [if_neg h3, if_neg h35, if_neg h19, if_neg h51, if_pos h15]
    by_cases f0 : f = 0
    · rw [if_pos f0]; exact more15 x rd rs1 rs2 f top hx h15 f0 w
    · rw [if_neg f0]; exact more15n x rd rs1 rs2 f top hx h15 f0 w
  by_cases h115 : x % 128 = 115
  · rw [if_neg h3, if_neg h35, if_neg h19, if_neg h51, if_neg h15, if_pos h115]; exact more115 x rd rs1 rs2 f top hx h115 w
  rw [if_neg h3, if_neg h35, if_neg h19, if_neg h51, if_neg h15, if_neg h115]; exact moreNone x rd rs1 rs2 f top hx h3 h35 h19 h51 h15 h115 w
end Go.Proofs.L
