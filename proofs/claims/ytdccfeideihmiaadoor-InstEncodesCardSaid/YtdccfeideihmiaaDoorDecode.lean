/- Proved here: lemmas and contracts (Decode) for the laws of this seat, for all values of the stated types; no further condition. -/
import Derived.Test.YtdccfeideihmiaaDoorMoreAll
open Go Go.RowKit Go.Lib
namespace Go.Proofs.L
def rdN (x : Nat) : Nat := x / 128 % 32
def rs1N (x : Nat) : Nat := x / 32768 % 32
def rs2N (x : Nat) : Nat := x / 1048576 % 32
def f3N (x : Nat) : Nat := x / 4096 % 8
def topN (x : Nat) : Nat := x / 33554432
/-- what a word is decoded as -/
def decN (x : Nat) : I5 :=
  if x % 128 = 55 then ⟨1, rdN x, 0, 0, immU x⟩
  else if x % 128 = 23 then ⟨2, rdN x, 0, 0, immU x⟩
  else if x % 128 = 111 then ⟨3, rdN x, 0, 0, immJ x⟩
  else if x % 128 = 103 then (if f3N x = 0 then ⟨4, rdN x, rs1N x, 0, immI x⟩ else noI)
  else if x % 128 = 99 then ofI (([5, 6, 0, 0, 7, 8, 9, 10] : List Nat).getD (f3N x) 0) 0 (rs1N x) (rs2N x) (immB x)
  else moreN x (rdN x) (rs1N x) (rs2N x) (f3N x) (topN x)
set_option maxHeartbeats 1600000 in
theorem dec55 (x : Nat) (hx : x < 4294967296) (hlo : x % 128 = 55) (w : World) : Calls Tryd.prog 10 #[.int .u32 (x : Int)] w fun e w' => e = .returned (.agg ((⟨1, rdN x, 0, 0, immU x⟩ : I5).A)) ∧ Chg [] w w' := by
  obtain ⟨RR, hRR⟩ : ∃ RR, RR = (⟨1, rdN x, 0, 0, immU x⟩ : I5).A := ⟨_, rfl⟩
  rw [← hRR]
  have HRR := Lib.hid hRR
  clear hRR
  have E : bits .and .u32 (x : Int) 127 = ((x % 128 : Nat) : Int) := by
    rw [show ((127 : Int)) = ((127 : Nat) : Int) from rfl, and32 x 127 hx (by decide), show (127 : Nat) = 2 ^ 7 - 1 from rfl, and_low]
  rw [hlo] at E
  have HX := Lib.hid hx
  obtain ⟨rd, hrd⟩ : ∃ y, y = x / 128 % 32 := ⟨_, rfl⟩
  obtain ⟨rs1, hrs1⟩ : ∃ y, y = x / 32768 % 32 := ⟨_, rfl⟩
  obtain ⟨rs2, hrs2⟩ : ∃ y, y = x / 1048576 % 32 := ⟨_, rfl⟩
  obtain ⟨f, hf⟩ : ∃ y, y = x / 4096 % 8 := ⟨_, rfl⟩
  obtain ⟨top, htop⟩ : ∃ y, y = x / 33554432 := ⟨_, rfl⟩
  have erd : bits .and .u32 ((x : Int) / 128) 31 = ((rd : Nat) : Int) := by rw [hrd]; exact band x 128 31 5 hx rfl (by decide) (by decide)
  have ers1 : bits .and .u32 ((x : Int) / 32768) 31 = ((rs1 : Nat) : Int) := by rw [hrs1]; exact band x 32768 31 5 hx rfl (by decide) (by decide)
  have ers2 : bits .and .u32 ((x : Int) / 1048576) 31 = ((rs2 : Nat) : Int) := by rw [hrs2]; exact band x 1048576 31 5 hx rfl (by decide) (by decide)
  have ef : bits .and .u32 ((x : Int) / 4096) 7 = ((f : Nat) : Int) := by rw [hf]; exact band x 4096 7 3 hx rfl (by decide) (by decide)
  have etop : (x : Int) / 33554432 = ((top : Nat) : Int) := by omega
  have wrd : wrap64 (rd : Int) = rd := IntWalk.wrap64_in _ ⟨by omega, by omega⟩
  have wrs1 : wrap64 (rs1 : Int) = rs1 := IntWalk.wrap64_in _ ⟨by omega, by omega⟩
  have wrs2 : wrap64 (rs2 : Int) = rs2 := IntWalk.wrap64_in _ ⟨by omega, by omega⟩
  have wf : wrap64 (f : Int) = f := IntWalk.wrap64_in _ ⟨by omega, by omega⟩
  have HRD := Lib.hid hrd
  have HRS1 := Lib.hid hrs1
  have HRS2 := Lib.hid hrs2
  have HF := Lib.hid hf
  have HTOP := Lib.hid htop
  clear hrd hrs1 hrs2 hf htop hx
  try clear hlo
  obtain ⟨V, hV⟩ : ∃ V, V = ((w.alloc (.cells #[.int .i64 0, .int .i64 0, .int .i64 0, .int .i64 0, .int .u32 0] 26)).alloc (.cells #[.int .i64 0, .int .i64 (rd : Int), .int .i64 (rs1 : Int), .int .i64 (rs2 : Int), .int .u32 0] 26)) := ⟨_, rfl⟩
  obtain ⟨b2, h2⟩ : ∃ b, b = w.heap.size := ⟨_, rfl⟩
  have r2 : V.row? b2 = some (insA 0 0 0 0 0) := by
    rw [hV, row_alloc_past _ _ _ (by simp; omega)]; exact row_alloc_at _ _ _ _ h2
  have rx : V.row? (b2 + 1) = some (insA 0 rd rs1 rs2 0) := by
    rw [hV]; exact row_alloc_at _ _ _ _ (by simp; omega)
  have hVC : Chg [] w V := by rw [hV]; exact (((Chg.refl _ _).alloc _).alloc _)
  have HVC := Lib.hid hVC
  have H2 := Lib.hid h2
  clear hVC
  go_enter Tryd.func10, Tryd.ntmps10
  go_wp2_with fail
  rw [← h2, ← hV]
  clear hV h2
  have hO : Calls Tryd.prog 28 #[.int .i64 1, .agg #[.int .i64 0, .int .i64 (rd : Int), .int .i64 (rs1 : Int), .int .i64 (rs2 : Int), .int .u32 0], .int .u32 (x : Int)] V fun e w' => e = .returned (.agg (insA 1 rd 0 0 (immU x))) ∧ Chg [] V w' := u_any 1 x rd rs1 rs2 0 0 HX.out V
  obtain ⟨R, hR⟩ : ∃ R, R = (insA 1 rd 0 0 (immU x)) := ⟨_, rfl⟩
  have hRs : R.size = 5 := by rw [hR]; rfl
  have hRa : allOne R = true := by rw [hR]; rfl
  rw [← hR] at hO
  have HR := Lib.hid hR
  have HO := Lib.hid hO
  have HRX := Lib.hid rx
  have HR2 := Lib.hid r2
  clear hO hR rx r2
  go_wp2_with (refine wpList_load_part a26 [.int .i64 0, .int .i64 (rd : Int), .int .i64 (rs1 : Int), .int .i64 (rs2 : Int), .int .u32 0] rfl _ rfl rfl rfl (fun j u hu => by rw [Nat.zero_add, row_cell HRX.out]; simpa [insA] using hu) ?_)
  refine HO.out.mono ?_
  rintro e w2 ⟨rfl, hc2⟩
  have k8 : w2.row? b2 = some (insA 0 0 0 0 0) := by rw [hc2.row (row_lt HR2.out) (by simp)]; exact HR2.out
  have HC2 : Hid (Chg [] w w2) := Lib.hid (HVC.out.trans hc2)
  clear hc2
  go_wp2_with (refine wpList_store_row a26 _ _ rfl rfl rfl rfl rfl k8 rfl hRs hRa ?_)
  refine bodyPost_ret (ret_cell1 rfl a26 rfl (by rw [row_setRow, if_pos rfl, k8]; rfl) hRs) rfl ?_
  exact ⟨by rw [HRR.out, HR.out, HRD.out]; rfl, HC2.out.setRow (Or.inr (by have := H2.out; omega)) _⟩
set_option maxHeartbeats 1600000 in
theorem dec23 (x : Nat) (hx : x < 4294967296) (hlo : x % 128 = 23) (w : World) : Calls Tryd.prog 10 #[.int .u32 (x : Int)] w fun e w' => e = .returned (.agg ((⟨2, rdN x, 0, 0, immU x⟩ : I5).A)) ∧ Chg [] w w' := by
  obtain ⟨RR, hRR⟩ : ∃ RR, RR = (⟨2, rdN x, 0, 0, immU x⟩ : I5).A := ⟨_, rfl⟩
  rw [← hRR]
  have HRR := Lib.hid hRR
  clear hRR
  have E : bits .and .u32 (x : Int) 127 = ((x % 128 : Nat) : Int) := by
    rw [show ((127 : Int)) = ((127 : Nat) : Int) from rfl, and32 x 127 hx (by decide), show (127 : Nat) = 2 ^ 7 - 1 from rfl, and_low]
  rw [hlo] at E
  have HX := Lib.hid hx
  obtain ⟨rd, hrd⟩ : ∃ y, y = x / 128 % 32 := ⟨_, rfl⟩
  obtain ⟨rs1, hrs1⟩ : ∃ y, y = x / 32768 % 32 := ⟨_, rfl⟩
  obtain ⟨rs2, hrs2⟩ : ∃ y, y = x / 1048576 % 32 := ⟨_, rfl⟩
  obtain ⟨f, hf⟩ : ∃ y, y = x / 4096 % 8 := ⟨_, rfl⟩
  obtain ⟨top, htop⟩ : ∃ y, y = x / 33554432 := ⟨_, rfl⟩
  have erd : bits .and .u32 ((x : Int) / 128) 31 = ((rd : Nat) : Int) := by rw [hrd]; exact band x 128 31 5 hx rfl (by decide) (by decide)
  have ers1 : bits .and .u32 ((x : Int) / 32768) 31 = ((rs1 : Nat) : Int) := by rw [hrs1]; exact band x 32768 31 5 hx rfl (by decide) (by decide)
  have ers2 : bits .and .u32 ((x : Int) / 1048576) 31 = ((rs2 : Nat) : Int) := by rw [hrs2]; exact band x 1048576 31 5 hx rfl (by decide) (by decide)
  have ef : bits .and .u32 ((x : Int) / 4096) 7 = ((f : Nat) : Int) := by rw [hf]; exact band x 4096 7 3 hx rfl (by decide) (by decide)
  have etop : (x : Int) / 33554432 = ((top : Nat) : Int) := by omega
  have wrd : wrap64 (rd : Int) = rd := IntWalk.wrap64_in _ ⟨by omega, by omega⟩
  have wrs1 : wrap64 (rs1 : Int) = rs1 := IntWalk.wrap64_in _ ⟨by omega, by omega⟩
  have wrs2 : wrap64 (rs2 : Int) = rs2 := IntWalk.wrap64_in _ ⟨by omega, by omega⟩
  have wf : wrap64 (f : Int) = f := IntWalk.wrap64_in _ ⟨by omega, by omega⟩
  have HRD := Lib.hid hrd
  have HRS1 := Lib.hid hrs1
  have HRS2 := Lib.hid hrs2
  have HF := Lib.hid hf
  have HTOP := Lib.hid htop
  clear hrd hrs1 hrs2 hf htop hx
  try clear hlo
  obtain ⟨V, hV⟩ : ∃ V, V = ((w.alloc (.cells #[.int .i64 0, .int .i64 0, .int .i64 0, .int .i64 0, .int .u32 0] 26)).alloc (.cells #[.int .i64 0, .int .i64 (rd : Int), .int .i64 (rs1 : Int), .int .i64 (rs2 : Int), .int .u32 0] 26)) := ⟨_, rfl⟩
  obtain ⟨b2, h2⟩ : ∃ b, b = w.heap.size := ⟨_, rfl⟩
  have r2 : V.row? b2 = some (insA 0 0 0 0 0) := by
    rw [hV, row_alloc_past _ _ _ (by simp; omega)]; exact row_alloc_at _ _ _ _ h2
  have rx : V.row? (b2 + 1) = some (insA 0 rd rs1 rs2 0) := by
    rw [hV]; exact row_alloc_at _ _ _ _ (by simp; omega)
  have hVC : Chg [] w V := by rw [hV]; exact (((Chg.refl _ _).alloc _).alloc _)
  have HVC := Lib.hid hVC
  have H2 := Lib.hid h2
  clear hVC
  go_enter Tryd.func10, Tryd.ntmps10
  go_wp2_with fail
  rw [← h2, ← hV]
  clear hV h2
  have hO : Calls Tryd.prog 28 #[.int .i64 2, .agg #[.int .i64 0, .int .i64 (rd : Int), .int .i64 (rs1 : Int), .int .i64 (rs2 : Int), .int .u32 0], .int .u32 (x : Int)] V fun e w' => e = .returned (.agg (insA 2 rd 0 0 (immU x))) ∧ Chg [] V w' := u_any 2 x rd rs1 rs2 0 0 HX.out V
  obtain ⟨R, hR⟩ : ∃ R, R = (insA 2 rd 0 0 (immU x)) := ⟨_, rfl⟩
  have hRs : R.size = 5 := by rw [hR]; rfl
  have hRa : allOne R = true := by rw [hR]; rfl
  rw [← hR] at hO
  have HR := Lib.hid hR
  have HO := Lib.hid hO
  have HRX := Lib.hid rx
  have HR2 := Lib.hid r2
  clear hO hR rx r2
  go_wp2_with (refine wpList_load_part a26 [.int .i64 0, .int .i64 (rd : Int), .int .i64 (rs1 : Int), .int .i64 (rs2 : Int), .int .u32 0] rfl _ rfl rfl rfl (fun j u hu => by rw [Nat.zero_add, row_cell HRX.out]; simpa [insA] using hu) ?_)
  refine HO.out.mono ?_
  rintro e w2 ⟨rfl, hc2⟩
  have k8 : w2.row? b2 = some (insA 0 0 0 0 0) := by rw [hc2.row (row_lt HR2.out) (by simp)]; exact HR2.out
  have HC2 : Hid (Chg [] w w2) := Lib.hid (HVC.out.trans hc2)
  clear hc2
  go_wp2_with (refine wpList_store_row a26 _ _ rfl rfl rfl rfl rfl k8 rfl hRs hRa ?_)
  refine bodyPost_ret (ret_cell1 rfl a26 rfl (by rw [row_setRow, if_pos rfl, k8]; rfl) hRs) rfl ?_
  exact ⟨by rw [HRR.out, HR.out, HRD.out]; rfl, HC2.out.setRow (Or.inr (by have := H2.out; omega)) _⟩
set_option maxHeartbeats 1600000 in
theorem decMore (x : Nat) (hx : x < 4294967296) (h55 : x % 128 ≠ 55) (h23 : x % 128 ≠ 23) (h111 : x % 128 ≠ 111) (h103 : x % 128 ≠ 103) (h99 : x % 128 ≠ 99) (w : World) : Calls Tryd.prog 10 #[.int .u32 (x : Int)] w fun e w' => e = .returned (.agg ((moreN x (rdN x) (rs1N x) (rs2N x) (f3N x) (topN x)).A)) ∧ Chg [] w w' := by
  obtain ⟨RR, hRR⟩ : ∃ RR, RR = (moreN x (rdN x) (rs1N x) (rs2N x) (f3N x) (topN x)).A := ⟨_, rfl⟩
  rw [← hRR]
  have HRR := Lib.hid hRR
  clear hRR
  have E : bits .and .u32 (x : Int) 127 = ((x % 128 : Nat) : Int) := by
    rw [show ((127 : Int)) = ((127 : Nat) : Int) from rfl, and32 x 127 hx (by decide), show (127 : Nat) = 2 ^ 7 - 1 from rfl, and_low]
  obtain ⟨lo, hlo⟩ : ∃ lo, x % 128 = lo := ⟨_, rfl⟩
  rw [hlo] at h55 h23 h111 h103 h99
  have n55 : ((lo : Int) = 55) = False := by simp; omega
  have m55 : ((lo : Int) == 55) = false := by rw [beq_eq_false_iff_ne]; omega
  have n23 : ((lo : Int) = 23) = False := by simp; omega
  have m23 : ((lo : Int) == 23) = false := by rw [beq_eq_false_iff_ne]; omega
  have n111 : ((lo : Int) = 111) = False := by simp; omega
  have m111 : ((lo : Int) == 111) = false := by rw [beq_eq_false_iff_ne]; omega
  have n103 : ((lo : Int) = 103) = False := by simp; omega
  have m103 : ((lo : Int) == 103) = false := by rw [beq_eq_false_iff_ne]; omega
  have n99 : ((lo : Int) = 99) = False := by simp; omega
  have m99 : ((lo : Int) == 99) = false := by rw [beq_eq_false_iff_ne]; omega
  clear h55 h23 h111 h103 h99
  rw [hlo] at E
  have HX := Lib.hid hx
  obtain ⟨rd, hrd⟩ : ∃ y, y = x / 128 % 32 := ⟨_, rfl⟩
  obtain ⟨rs1, hrs1⟩ : ∃ y, y = x / 32768 % 32 := ⟨_, rfl⟩
  obtain ⟨rs2, hrs2⟩ : ∃ y, y = x / 1048576 % 32 := ⟨_, rfl⟩
  obtain ⟨f, hf⟩ : ∃ y, y = x / 4096 % 8 := ⟨_, rfl⟩
  obtain ⟨top, htop⟩ : ∃ y, y = x / 33554432 := ⟨_, rfl⟩
  have erd : bits .and .u32 ((x : Int) / 128) 31 = ((rd : Nat) : Int) := by rw [hrd]; exact band x 128 31 5 hx rfl (by decide) (by decide)
  have ers1 : bits .and .u32 ((x : Int) / 32768) 31 = ((rs1 : Nat) : Int) := by rw [hrs1]; exact band x 32768 31 5 hx rfl (by decide) (by decide)
  have ers2 : bits .and .u32 ((x : Int) / 1048576) 31 = ((rs2 : Nat) : Int) := by rw [hrs2]; exact band x 1048576 31 5 hx rfl (by decide) (by decide)
  have ef : bits .and .u32 ((x : Int) / 4096) 7 = ((f : Nat) : Int) := by rw [hf]; exact band x 4096 7 3 hx rfl (by decide) (by decide)
  have etop : (x : Int) / 33554432 = ((top : Nat) : Int) := by omega
  have wrd : wrap64 (rd : Int) = rd := IntWalk.wrap64_in _ ⟨by omega, by omega⟩
  have wrs1 : wrap64 (rs1 : Int) = rs1 := IntWalk.wrap64_in _ ⟨by omega, by omega⟩
  have wrs2 : wrap64 (rs2 : Int) = rs2 := IntWalk.wrap64_in _ ⟨by omega, by omega⟩
  have wf : wrap64 (f : Int) = f := IntWalk.wrap64_in _ ⟨by omega, by omega⟩
  have HRD := Lib.hid hrd
  have HRS1 := Lib.hid hrs1
  have HRS2 := Lib.hid hrs2
  have HF := Lib.hid hf
  have HTOP := Lib.hid htop
  clear hrd hrs1 hrs2 hf htop hx
  try clear hlo
  obtain ⟨V, hV⟩ : ∃ V, V = ((w.alloc (.cells #[.int .i64 0, .int .i64 0, .int .i64 0, .int .i64 0, .int .u32 0] 26)).alloc (.cells #[.int .i64 0, .int .i64 (rd : Int), .int .i64 (rs1 : Int), .int .i64 (rs2 : Int), .int .u32 0] 26)) := ⟨_, rfl⟩
  obtain ⟨b2, h2⟩ : ∃ b, b = w.heap.size := ⟨_, rfl⟩
  have r2 : V.row? b2 = some (insA 0 0 0 0 0) := by
    rw [hV, row_alloc_past _ _ _ (by simp; omega)]; exact row_alloc_at _ _ _ _ h2
  have rx : V.row? (b2 + 1) = some (insA 0 rd rs1 rs2 0) := by
    rw [hV]; exact row_alloc_at _ _ _ _ (by simp; omega)
  have hVC : Chg [] w V := by rw [hV]; exact (((Chg.refl _ _).alloc _).alloc _)
  have HVC := Lib.hid hVC
  have H2 := Lib.hid h2
  clear hVC
  go_enter Tryd.func10, Tryd.ntmps10
  go_wp2_with fail
  rw [← h2, ← hV]
  clear hV h2
  have hO : Calls Tryd.prog 31 #[.int .u32 (x : Int), .agg #[.int .i64 0, .int .i64 (rd : Int), .int .i64 (rs1 : Int), .int .i64 (rs2 : Int), .int .u32 0], .int .i64 (f : Int), .int .u32 (top : Int)] V fun e w' => e = .returned (.agg ((moreN x rd rs1 rs2 f top).A)) ∧ Chg [] V w' := more_any x rd rs1 rs2 f top HX.out (by rw [HRS2.out]; omega) V
  obtain ⟨R, hR⟩ : ∃ R, R = ((moreN x rd rs1 rs2 f top).A) := ⟨_, rfl⟩
  have hRs : R.size = 5 := by rw [hR]; rfl
  have hRa : allOne R = true := by rw [hR]; rfl
  rw [← hR] at hO
  have HR := Lib.hid hR
  have HO := Lib.hid hO
  have HRX := Lib.hid rx
  have HR2 := Lib.hid r2
  clear hO hR rx r2
  go_wp2_with (refine wpList_load_part a26 [.int .i64 0, .int .i64 (rd : Int), .int .i64 (rs1 : Int), .int .i64 (rs2 : Int), .int .u32 0] rfl _ rfl rfl rfl (fun j u hu => by rw [Nat.zero_add, row_cell HRX.out]; simpa [insA] using hu) ?_)
  refine HO.out.mono ?_
  rintro e w2 ⟨rfl, hc2⟩
  have k8 : w2.row? b2 = some (insA 0 0 0 0 0) := by rw [hc2.row (row_lt HR2.out) (by simp)]; exact HR2.out
  have HC2 : Hid (Chg [] w w2) := Lib.hid (HVC.out.trans hc2)
  clear hc2
  go_wp2_with (refine wpList_store_row a26 _ _ rfl rfl rfl rfl rfl k8 rfl hRs hRa ?_)
  refine bodyPost_ret (ret_cell1 rfl a26 rfl (by rw [row_setRow, if_pos rfl, k8]; rfl) hRs) rfl ?_
  exact ⟨by rw [HRR.out, HR.out, HRD.out, HRS1.out, HRS2.out, HF.out, HTOP.out]; rfl, HC2.out.setRow (Or.inr (by have := H2.out; omega)) _⟩
set_option maxHeartbeats 1600000 in
theorem dec111 (x : Nat) (hx : x < 4294967296) (hlo : x % 128 = 111) (w : World) : Calls Tryd.prog 10 #[.int .u32 (x : Int)] w fun e w' => e = .returned (.agg ((⟨3, rdN x, 0, 0, immJ x⟩ : I5).A)) ∧ Chg [] w w' := by
  obtain ⟨RR, hRR⟩ : ∃ RR, RR = (⟨3, rdN x, 0, 0, immJ x⟩ : I5).A := ⟨_, rfl⟩
  rw [← hRR]
  have HRR := Lib.hid hRR
  clear hRR
  have E : bits .and .u32 (x : Int) 127 = ((x % 128 : Nat) : Int) := by
    rw [show ((127 : Int)) = ((127 : Nat) : Int) from rfl, and32 x 127 hx (by decide), show (127 : Nat) = 2 ^ 7 - 1 from rfl, and_low]
  rw [hlo] at E
  have HX := Lib.hid hx
  obtain ⟨rd, hrd⟩ : ∃ y, y = x / 128 % 32 := ⟨_, rfl⟩
  obtain ⟨rs1, hrs1⟩ : ∃ y, y = x / 32768 % 32 := ⟨_, rfl⟩
  obtain ⟨rs2, hrs2⟩ : ∃ y, y = x / 1048576 % 32 := ⟨_, rfl⟩
  obtain ⟨f, hf⟩ : ∃ y, y = x / 4096 % 8 := ⟨_, rfl⟩
  obtain ⟨top, htop⟩ : ∃ y, y = x / 33554432 := ⟨_, rfl⟩
  have erd : bits .and .u32 ((x : Int) / 128) 31 = ((rd : Nat) : Int) := by rw [hrd]; exact band x 128 31 5 hx rfl (by decide) (by decide)
  have ers1 : bits .and .u32 ((x : Int) / 32768) 31 = ((rs1 : Nat) : Int) := by rw [hrs1]; exact band x 32768 31 5 hx rfl (by decide) (by decide)
  have ers2 : bits .and .u32 ((x : Int) / 1048576) 31 = ((rs2 : Nat) : Int) := by rw [hrs2]; exact band x 1048576 31 5 hx rfl (by decide) (by decide)
  have ef : bits .and .u32 ((x : Int) / 4096) 7 = ((f : Nat) : Int) := by rw [hf]; exact band x 4096 7 3 hx rfl (by decide) (by decide)
  have etop : (x : Int) / 33554432 = ((top : Nat) : Int) := by omega
  have wrd : wrap64 (rd : Int) = rd := IntWalk.wrap64_in _ ⟨by omega, by omega⟩
  have wrs1 : wrap64 (rs1 : Int) = rs1 := IntWalk.wrap64_in _ ⟨by omega, by omega⟩
  have wrs2 : wrap64 (rs2 : Int) = rs2 := IntWalk.wrap64_in _ ⟨by omega, by omega⟩
  have wf : wrap64 (f : Int) = f := IntWalk.wrap64_in _ ⟨by omega, by omega⟩
  have HRD := Lib.hid hrd
  have HRS1 := Lib.hid hrs1
  have HRS2 := Lib.hid hrs2
  have HF := Lib.hid hf
  have HTOP := Lib.hid htop
  clear hrd hrs1 hrs2 hf htop hx
  try clear hlo
  obtain ⟨V, hV⟩ : ∃ V, V = ((w.alloc (.cells #[.int .i64 0, .int .i64 0, .int .i64 0, .int .i64 0, .int .u32 0] 26)).alloc (.cells #[.int .i64 0, .int .i64 (rd : Int), .int .i64 (rs1 : Int), .int .i64 (rs2 : Int), .int .u32 0] 26)) := ⟨_, rfl⟩
  obtain ⟨b2, h2⟩ : ∃ b, b = w.heap.size := ⟨_, rfl⟩
  have r2 : V.row? b2 = some (insA 0 0 0 0 0) := by
    rw [hV, row_alloc_past _ _ _ (by simp; omega)]; exact row_alloc_at _ _ _ _ h2
  have rx : V.row? (b2 + 1) = some (insA 0 rd rs1 rs2 0) := by
    rw [hV]; exact row_alloc_at _ _ _ _ (by simp; omega)
  have hVC : Chg [] w V := by rw [hV]; exact (((Chg.refl _ _).alloc _).alloc _)
  have HVC := Lib.hid hVC
  have H2 := Lib.hid h2
  clear hVC
  go_enter Tryd.func10, Tryd.ntmps10
  go_wp2_with fail
  rw [← h2, ← hV]
  clear hV h2
  obtain ⟨iS, hiS⟩ : ∃ y, y = immJ x := ⟨_, rfl⟩
  have hS := immJ_any x HX.out
  rw [← hiS] at hS
  have HS := Lib.hid hS
  have HIS := Lib.hid hiS
  clear hS hiS
  have s1 : V.cell? ⟨b2 + 1, 1, none⟩ = some (.int .i64 (rd : Int)) := by rw [row_cell rx]; rfl
  refine wp_region_C (fun w' => w'.cell? ⟨b2 + 1, 1, none⟩ = some (.int .i64 (rd : Int)) ∧ w'.row? b2 = some (insA 0 0 0 0 0)) [(0, 0), (1, 1), (2, 0), (3, 0), (4, 0), (5, 3)] rfl (by kernel_rfl) ?hSB ?hTB
  case hSB => exact ⟨s1, r2⟩
  refine wpT_pureD (v := ?_) (some 39) rfl rfl (by rfl) (fun w' => ?_) ?_
  rotate_left
  · (go_simp; try with_reducible rfl)
  try simp only [Act.put, List.setIfInBounds_toArray, List.set_cons_zero, List.set_cons_succ]
  refine wpT_readD (v := ?_) (some 40) rfl rfl (by rfl) (fun w' hw => ?_) ?_
  rotate_left
  · (obtain ⟨q0, q1⟩ := hw; go_simp; try with_reducible rfl)
  try simp only [Act.put, List.setIfInBounds_toArray, List.set_cons_zero, List.set_cons_succ]
  refine wpT_pureD (v := ?_) (some 41) rfl rfl (by rfl) (fun w' => ?_) ?_
  rotate_left
  · (go_simp; try with_reducible rfl)
  try simp only [Act.put, List.setIfInBounds_toArray, List.set_cons_zero, List.set_cons_succ]
  refine wpT_call (d := some 42) (f := 20) (args := #[.int .u32 (x : Int)]) (v := .int .u32 (iS : Int)) rfl rfl (by rfl) (fun w' => by first | rfl | go_simp) (fun w' => HS.out w') ?_
  try simp only [Act.put, List.setIfInBounds_toArray, List.set_cons_zero, List.set_cons_succ]
  try simp only [Act.put, List.setIfInBounds_toArray, List.set_cons_zero, List.set_cons_succ]
  refine wpT_pureD (v := ?_) (some 43) rfl rfl (by rfl) (fun w' => ?_) ?_
  rotate_left
  · (go_simp; try with_reducible rfl)
  try simp only [Act.put, List.setIfInBounds_toArray, List.set_cons_zero, List.set_cons_succ]
  refine wpT_brk rfl (by rfl) (fun K hK => ?_)
  have d2 : V.drew.row? b2 = some (insA 0 0 0 0 0) := r2
  go_wp2_with (refine wpList_store_row a26 _ _ rfl rfl rfl rfl rfl d2 rfl rfl rfl ?_)
  refine wpT_end ?_
  go_wp2
  refine bodyPost_ret (ret_cell1 rfl a26 rfl (by rw [row_setRow, if_pos rfl, d2]; rfl) rfl) rfl ?_
  exact ⟨by rw [HRR.out, HRD.out, HIS.out]; rfl, (HVC.out.drew).setRow (Or.inr (by have := H2.out; omega)) _⟩
set_option maxHeartbeats 1600000 in
theorem dec103 (x : Nat) (hx : x < 4294967296) (hlo : x % 128 = 103) (hf0 : f3N x = 0) (w : World) : Calls Tryd.prog 10 #[.int .u32 (x : Int)] w fun e w' => e = .returned (.agg ((⟨4, rdN x, rs1N x, 0, immI x⟩ : I5).A)) ∧ Chg [] w w' := by
  obtain ⟨RR, hRR⟩ : ∃ RR, RR = (⟨4, rdN x, rs1N x, 0, immI x⟩ : I5).A := ⟨_, rfl⟩
  rw [← hRR]
  have HRR := Lib.hid hRR
  clear hRR
  have E : bits .and .u32 (x : Int) 127 = ((x % 128 : Nat) : Int) := by
    rw [show ((127 : Int)) = ((127 : Nat) : Int) from rfl, and32 x 127 hx (by decide), show (127 : Nat) = 2 ^ 7 - 1 from rfl, and_low]
  rw [hlo] at E
  have HX := Lib.hid hx
  obtain ⟨rd, hrd⟩ : ∃ y, y = x / 128 % 32 := ⟨_, rfl⟩
  obtain ⟨rs1, hrs1⟩ : ∃ y, y = x / 32768 % 32 := ⟨_, rfl⟩
  obtain ⟨rs2, hrs2⟩ : ∃ y, y = x / 1048576 % 32 := ⟨_, rfl⟩
  obtain ⟨f, hf⟩ : ∃ y, y = x / 4096 % 8 := ⟨_, rfl⟩
  obtain ⟨top, htop⟩ : ∃ y, y = x / 33554432 := ⟨_, rfl⟩
  have erd : bits .and .u32 ((x : Int) / 128) 31 = ((rd : Nat) : Int) := by rw [hrd]; exact band x 128 31 5 hx rfl (by decide) (by decide)
  have ers1 : bits .and .u32 ((x : Int) / 32768) 31 = ((rs1 : Nat) : Int) := by rw [hrs1]; exact band x 32768 31 5 hx rfl (by decide) (by decide)
  have ers2 : bits .and .u32 ((x : Int) / 1048576) 31 = ((rs2 : Nat) : Int) := by rw [hrs2]; exact band x 1048576 31 5 hx rfl (by decide) (by decide)
  have ef : bits .and .u32 ((x : Int) / 4096) 7 = ((f : Nat) : Int) := by rw [hf]; exact band x 4096 7 3 hx rfl (by decide) (by decide)
  have etop : (x : Int) / 33554432 = ((top : Nat) : Int) := by omega
  have wrd : wrap64 (rd : Int) = rd := IntWalk.wrap64_in _ ⟨by omega, by omega⟩
  have wrs1 : wrap64 (rs1 : Int) = rs1 := IntWalk.wrap64_in _ ⟨by omega, by omega⟩
  have wrs2 : wrap64 (rs2 : Int) = rs2 := IntWalk.wrap64_in _ ⟨by omega, by omega⟩
  have wf : wrap64 (f : Int) = f := IntWalk.wrap64_in _ ⟨by omega, by omega⟩
  have HRD := Lib.hid hrd
  have HRS1 := Lib.hid hrs1
  have HRS2 := Lib.hid hrs2
  have HF := Lib.hid hf
  have HTOP := Lib.hid htop
  clear hrd hrs1 hrs2 hf htop hx
  try clear hlo
  obtain ⟨V, hV⟩ : ∃ V, V = ((w.alloc (.cells #[.int .i64 0, .int .i64 0, .int .i64 0, .int .i64 0, .int .u32 0] 26)).alloc (.cells #[.int .i64 0, .int .i64 (rd : Int), .int .i64 (rs1 : Int), .int .i64 (rs2 : Int), .int .u32 0] 26)) := ⟨_, rfl⟩
  obtain ⟨b2, h2⟩ : ∃ b, b = w.heap.size := ⟨_, rfl⟩
  have r2 : V.row? b2 = some (insA 0 0 0 0 0) := by
    rw [hV, row_alloc_past _ _ _ (by simp; omega)]; exact row_alloc_at _ _ _ _ h2
  have rx : V.row? (b2 + 1) = some (insA 0 rd rs1 rs2 0) := by
    rw [hV]; exact row_alloc_at _ _ _ _ (by simp; omega)
  have hVC : Chg [] w V := by rw [hV]; exact (((Chg.refl _ _).alloc _).alloc _)
  have HVC := Lib.hid hVC
  have H2 := Lib.hid h2
  clear hVC
  go_enter Tryd.func10, Tryd.ntmps10
  have hf00 : f = 0 := HF.out.trans hf0
  clear hf0
  subst hf00
  go_wp2_with fail
  rw [← h2, ← hV]
  clear hV h2
  obtain ⟨iS, hiS⟩ : ∃ y, y = immI x := ⟨_, rfl⟩
  have hS := immI_any x HX.out
  rw [← hiS] at hS
  have HS := Lib.hid hS
  have HIS := Lib.hid hiS
  clear hS hiS
  have s1 : V.cell? ⟨b2 + 1, 1, none⟩ = some (.int .i64 (rd : Int)) := by rw [row_cell rx]; rfl
  have s2 : V.cell? ⟨b2 + 1, 2, none⟩ = some (.int .i64 (rs1 : Int)) := by rw [row_cell rx]; rfl
  refine wp_region_C (fun w' => w'.cell? ⟨b2 + 1, 1, none⟩ = some (.int .i64 (rd : Int)) ∧ w'.cell? ⟨b2 + 1, 2, none⟩ = some (.int .i64 (rs1 : Int)) ∧ w'.row? b2 = some (insA 0 0 0 0 0)) [(0, 0), (1, 1), (2, 0), (3, 1), (4, 0), (5, 0), (6, 0), (7, 3)] rfl (by kernel_rfl) ?hSB ?hTB
  case hSB => exact ⟨s1, s2, r2⟩
  refine wpT_pureD (v := ?_) (some 49) rfl rfl (by rfl) (fun w' => ?_) ?_
  rotate_left
  · (go_simp; try with_reducible rfl)
  try simp only [Act.put, List.setIfInBounds_toArray, List.set_cons_zero, List.set_cons_succ]
  refine wpT_readD (v := ?_) (some 50) rfl rfl (by rfl) (fun w' hw => ?_) ?_
  rotate_left
  · (obtain ⟨q0, q1, q2⟩ := hw; go_simp; try with_reducible rfl)
  try simp only [Act.put, List.setIfInBounds_toArray, List.set_cons_zero, List.set_cons_succ]
  refine wpT_pureD (v := ?_) (some 51) rfl rfl (by rfl) (fun w' => ?_) ?_
  rotate_left
  · (go_simp; try with_reducible rfl)
  try simp only [Act.put, List.setIfInBounds_toArray, List.set_cons_zero, List.set_cons_succ]
  refine wpT_readD (v := ?_) (some 52) rfl rfl (by rfl) (fun w' hw => ?_) ?_
  rotate_left
  · (obtain ⟨q0, q1, q2⟩ := hw; go_simp; try with_reducible rfl)
  try simp only [Act.put, List.setIfInBounds_toArray, List.set_cons_zero, List.set_cons_succ]
  refine wpT_pureD (v := ?_) (some 53) rfl rfl (by rfl) (fun w' => ?_) ?_
  rotate_left
  · (go_simp; try with_reducible rfl)
  try simp only [Act.put, List.setIfInBounds_toArray, List.set_cons_zero, List.set_cons_succ]
  refine wpT_call (d := some 54) (f := 16) (args := #[.int .u32 (x : Int)]) (v := .int .u32 (iS : Int)) rfl rfl (by rfl) (fun w' => by first | rfl | go_simp) (fun w' => HS.out w') ?_
  try simp only [Act.put, List.setIfInBounds_toArray, List.set_cons_zero, List.set_cons_succ]
  try simp only [Act.put, List.setIfInBounds_toArray, List.set_cons_zero, List.set_cons_succ]
  refine wpT_pureD (v := ?_) (some 55) rfl rfl (by rfl) (fun w' => ?_) ?_
  rotate_left
  · (go_simp; try with_reducible rfl)
  try simp only [Act.put, List.setIfInBounds_toArray, List.set_cons_zero, List.set_cons_succ]
  refine wpT_brk rfl (by rfl) (fun K hK => ?_)
  have d2 : V.drew.row? b2 = some (insA 0 0 0 0 0) := r2
  go_wp2_with (refine wpList_store_row a26 _ _ rfl rfl rfl rfl rfl d2 rfl rfl rfl ?_)
  refine wpT_end ?_
  go_wp2
  refine bodyPost_ret (ret_cell1 rfl a26 rfl (by rw [row_setRow, if_pos rfl, d2]; rfl) rfl) rfl ?_
  exact ⟨by rw [HRR.out, HRD.out, HRS1.out, HIS.out]; rfl, (HVC.out.drew).setRow (Or.inr (by have := H2.out; omega)) _⟩
set_option maxHeartbeats 1600000 in
theorem dec103n (x : Nat) (hx : x < 4294967296) (hlo : x % 128 = 103) (hf0 : f3N x ≠ 0) (w : World) : Calls Tryd.prog 10 #[.int .u32 (x : Int)] w fun e w' => e = .returned (.agg (noI.A)) ∧ Chg [] w w' := by
  obtain ⟨RR, hRR⟩ : ∃ RR, RR = noI.A := ⟨_, rfl⟩
  rw [← hRR]
  have HRR := Lib.hid hRR
  clear hRR
  have E : bits .and .u32 (x : Int) 127 = ((x % 128 : Nat) : Int) := by
    rw [show ((127 : Int)) = ((127 : Nat) : Int) from rfl, and32 x 127 hx (by decide), show (127 : Nat) = 2 ^ 7 - 1 from rfl, and_low]
  rw [hlo] at E
  have HX := Lib.hid hx
  obtain ⟨rd, hrd⟩ : ∃ y, y = x / 128 % 32 := ⟨_, rfl⟩
  obtain ⟨rs1, hrs1⟩ : ∃ y, y = x / 32768 % 32 := ⟨_, rfl⟩
  obtain ⟨rs2, hrs2⟩ : ∃ y, y = x / 1048576 % 32 := ⟨_, rfl⟩
  obtain ⟨f, hf⟩ : ∃ y, y = x / 4096 % 8 := ⟨_, rfl⟩
  obtain ⟨top, htop⟩ : ∃ y, y = x / 33554432 := ⟨_, rfl⟩
  have erd : bits .and .u32 ((x : Int) / 128) 31 = ((rd : Nat) : Int) := by rw [hrd]; exact band x 128 31 5 hx rfl (by decide) (by decide)
  have ers1 : bits .and .u32 ((x : Int) / 32768) 31 = ((rs1 : Nat) : Int) := by rw [hrs1]; exact band x 32768 31 5 hx rfl (by decide) (by decide)
  have ers2 : bits .and .u32 ((x : Int) / 1048576) 31 = ((rs2 : Nat) : Int) := by rw [hrs2]; exact band x 1048576 31 5 hx rfl (by decide) (by decide)
  have ef : bits .and .u32 ((x : Int) / 4096) 7 = ((f : Nat) : Int) := by rw [hf]; exact band x 4096 7 3 hx rfl (by decide) (by decide)
  have etop : (x : Int) / 33554432 = ((top : Nat) : Int) := by omega
  have wrd : wrap64 (rd : Int) = rd := IntWalk.wrap64_in _ ⟨by omega, by omega⟩
  have wrs1 : wrap64 (rs1 : Int) = rs1 := IntWalk.wrap64_in _ ⟨by omega, by omega⟩
  have wrs2 : wrap64 (rs2 : Int) = rs2 := IntWalk.wrap64_in _ ⟨by omega, by omega⟩
  have wf : wrap64 (f : Int) = f := IntWalk.wrap64_in _ ⟨by omega, by omega⟩
  have HRD := Lib.hid hrd
  have HRS1 := Lib.hid hrs1
  have HRS2 := Lib.hid hrs2
  have HF := Lib.hid hf
  have HTOP := Lib.hid htop
  clear hrd hrs1 hrs2 hf htop hx
  try clear hlo
  obtain ⟨V, hV⟩ : ∃ V, V = ((w.alloc (.cells #[.int .i64 0, .int .i64 0, .int .i64 0, .int .i64 0, .int .u32 0] 26)).alloc (.cells #[.int .i64 0, .int .i64 (rd : Int), .int .i64 (rs1 : Int), .int .i64 (rs2 : Int), .int .u32 0] 26)) := ⟨_, rfl⟩
  obtain ⟨b2, h2⟩ : ∃ b, b = w.heap.size := ⟨_, rfl⟩
  have r2 : V.row? b2 = some (insA 0 0 0 0 0) := by
    rw [hV, row_alloc_past _ _ _ (by simp; omega)]; exact row_alloc_at _ _ _ _ h2
  have rx : V.row? (b2 + 1) = some (insA 0 rd rs1 rs2 0) := by
    rw [hV]; exact row_alloc_at _ _ _ _ (by simp; omega)
  have hVC : Chg [] w V := by rw [hV]; exact (((Chg.refl _ _).alloc _).alloc _)
  have HVC := Lib.hid hVC
  have H2 := Lib.hid h2
  clear hVC
  go_enter Tryd.func10, Tryd.ntmps10
  have hf00 : f ≠ 0 := fun h => hf0 (HF.out.symm.trans h)
  clear hf0
  have n0 : ((f : Int) == 0) = false := by simpa using hf00
  have m0 : ((f : Int) = 0) = False := by simpa using hf00
  clear hf00
  go_upto_region 4 with (fail)
  rw [← h2, ← hV]
  clear hV h2
  rw [wf]
  clear erd ers1 ers2 ef etop wrd wrs1 wrs2 wf
  go_wp2_with (refine wpList_store_row a26 _ _ rfl rfl rfl rfl rfl r2 rfl rfl rfl ?_)
  refine bodyPost_ret (ret_cell1 rfl a26 rfl (by rw [row_setRow, if_pos rfl, r2]; rfl) rfl) rfl ?_
  exact ⟨by rw [HRR.out]; rfl, HVC.out.setRow (Or.inr (by have := H2.out; omega)) _⟩
set_option maxHeartbeats 1600000 in
theorem dec99 (x : Nat) (hx : x < 4294967296) (hlo : x % 128 = 99) (w : World) : Calls Tryd.prog 10 #[.int .u32 (x : Int)] w fun e w' => e = .returned (.agg ((ofI (([5, 6, 0, 0, 7, 8, 9, 10] : List Nat).getD (f3N x) 0) 0 (rs1N x) (rs2N x) (immB x)).A)) ∧ Chg [] w w' := by
  obtain ⟨RR, hRR⟩ : ∃ RR, RR = (ofI (([5, 6, 0, 0, 7, 8, 9, 10] : List Nat).getD (f3N x) 0) 0 (rs1N x) (rs2N x) (immB x)).A := ⟨_, rfl⟩
  rw [← hRR]
  have HRR := Lib.hid hRR
  clear hRR
  have E : bits .and .u32 (x : Int) 127 = ((x % 128 : Nat) : Int) := by
    rw [show ((127 : Int)) = ((127 : Nat) : Int) from rfl, and32 x 127 hx (by decide), show (127 : Nat) = 2 ^ 7 - 1 from rfl, and_low]
  rw [hlo] at E
  have HX := Lib.hid hx
  obtain ⟨rd, hrd⟩ : ∃ y, y = x / 128 % 32 := ⟨_, rfl⟩
  obtain ⟨rs1, hrs1⟩ : ∃ y, y = x / 32768 % 32 := ⟨_, rfl⟩
  obtain ⟨rs2, hrs2⟩ : ∃ y, y = x / 1048576 % 32 := ⟨_, rfl⟩
  obtain ⟨f, hf⟩ : ∃ y, y = x / 4096 % 8 := ⟨_, rfl⟩
  obtain ⟨top, htop⟩ : ∃ y, y = x / 33554432 := ⟨_, rfl⟩
  have erd : bits .and .u32 ((x : Int) / 128) 31 = ((rd : Nat) : Int) := by rw [hrd]; exact band x 128 31 5 hx rfl (by decide) (by decide)
  have ers1 : bits .and .u32 ((x : Int) / 32768) 31 = ((rs1 : Nat) : Int) := by rw [hrs1]; exact band x 32768 31 5 hx rfl (by decide) (by decide)
  have ers2 : bits .and .u32 ((x : Int) / 1048576) 31 = ((rs2 : Nat) : Int) := by rw [hrs2]; exact band x 1048576 31 5 hx rfl (by decide) (by decide)
  have ef : bits .and .u32 ((x : Int) / 4096) 7 = ((f : Nat) : Int) := by rw [hf]; exact band x 4096 7 3 hx rfl (by decide) (by decide)
  have etop : (x : Int) / 33554432 = ((top : Nat) : Int) := by omega
  have wrd : wrap64 (rd : Int) = rd := IntWalk.wrap64_in _ ⟨by omega, by omega⟩
  have wrs1 : wrap64 (rs1 : Int) = rs1 := IntWalk.wrap64_in _ ⟨by omega, by omega⟩
  have wrs2 : wrap64 (rs2 : Int) = rs2 := IntWalk.wrap64_in _ ⟨by omega, by omega⟩
  have wf : wrap64 (f : Int) = f := IntWalk.wrap64_in _ ⟨by omega, by omega⟩
  have HRD := Lib.hid hrd
  have HRS1 := Lib.hid hrs1
  have HRS2 := Lib.hid hrs2
  have HF := Lib.hid hf
  have HTOP := Lib.hid htop
  clear hrd hrs1 hrs2 hf htop hx
  try clear hlo
  obtain ⟨V, hV⟩ : ∃ V, V = ((w.alloc (.cells #[.int .i64 0, .int .i64 0, .int .i64 0, .int .i64 0, .int .u32 0] 26)).alloc (.cells #[.int .i64 0, .int .i64 (rd : Int), .int .i64 (rs1 : Int), .int .i64 (rs2 : Int), .int .u32 0] 26)) := ⟨_, rfl⟩
  obtain ⟨b2, h2⟩ : ∃ b, b = w.heap.size := ⟨_, rfl⟩
  have r2 : V.row? b2 = some (insA 0 0 0 0 0) := by
    rw [hV, row_alloc_past _ _ _ (by simp; omega)]; exact row_alloc_at _ _ _ _ h2
  have rx : V.row? (b2 + 1) = some (insA 0 rd rs1 rs2 0) := by
    rw [hV]; exact row_alloc_at _ _ _ _ (by simp; omega)
  have hVC : Chg [] w V := by rw [hV]; exact (((Chg.refl _ _).alloc _).alloc _)
  have HVC := Lib.hid hVC
  have H2 := Lib.hid h2
  clear hVC
  go_enter Tryd.func10, Tryd.ntmps10
  go_wp2_with fail
  rw [← h2, ← hV]
  clear hV h2
  obtain ⟨iS, hiS⟩ : ∃ y, y = immB x := ⟨_, rfl⟩
  have hS := immB_any x HX.out
  rw [← hiS] at hS
  have HS := Lib.hid hS
  have HIS := Lib.hid hiS
  clear hS hiS
  have s1 : V.cell? ⟨b2 + 1, 2, none⟩ = some (.int .i64 (rs1 : Int)) := by rw [row_cell rx]; rfl
  have s2 : V.cell? ⟨b2 + 1, 3, none⟩ = some (.int .i64 (rs2 : Int)) := by rw [row_cell rx]; rfl
  refine wp_region_C (fun w' => w'.cell? ⟨b2 + 1, 2, none⟩ = some (.int .i64 (rs1 : Int)) ∧ w'.cell? ⟨b2 + 1, 3, none⟩ = some (.int .i64 (rs2 : Int)) ∧ w'.row? (b2) = some (insA 0 0 0 0 0)) [(0, 0), (3, 0), (4, 1), (5, 0), (6, 1), (7, 0), (1, 2), (2, 2), (8, 0), (9, 0), (10, 2), (11, 3)] rfl (by kernel_rfl) ?hSB ?hTB
  case hSB => exact ⟨s1, s2, r2⟩
  refine wpT_pureD (v := ?_) (some 58) rfl rfl (by rfl) (fun w' => ?_) ?_
  rotate_left
  · (go_simp; try with_reducible rfl)
  try simp only [Act.put, List.setIfInBounds_toArray, List.set_cons_zero, List.set_cons_succ]
  refine wpT_pureD (v := ?_) (some 61) rfl rfl (by rfl) (fun w' => ?_) ?_
  rotate_left
  · (go_simp; try with_reducible rfl)
  try simp only [Act.put, List.setIfInBounds_toArray, List.set_cons_zero, List.set_cons_succ]
  refine wpT_readD (v := ?_) (some 62) rfl rfl (by rfl) (fun w' hw => ?_) ?_
  rotate_left
  · (obtain ⟨q0, q1, q2⟩ := hw; go_simp; try with_reducible rfl)
  try simp only [Act.put, List.setIfInBounds_toArray, List.set_cons_zero, List.set_cons_succ]
  refine wpT_pureD (v := ?_) (some 63) rfl rfl (by rfl) (fun w' => ?_) ?_
  rotate_left
  · (go_simp; try with_reducible rfl)
  try simp only [Act.put, List.setIfInBounds_toArray, List.set_cons_zero, List.set_cons_succ]
  refine wpT_readD (v := ?_) (some 64) rfl rfl (by rfl) (fun w' hw => ?_) ?_
  rotate_left
  · (obtain ⟨q0, q1, q2⟩ := hw; go_simp; try with_reducible rfl)
  try simp only [Act.put, List.setIfInBounds_toArray, List.set_cons_zero, List.set_cons_succ]
  refine wpT_pureD (v := ?_) (some 65) rfl rfl (by rfl) (fun w' => ?_) ?_
  rotate_left
  · (go_simp; try with_reducible rfl)
  try simp only [Act.put, List.setIfInBounds_toArray, List.set_cons_zero, List.set_cons_succ]
  refine wpT_eff rfl (by rfl) (fun K hK => ?_)
  obtain ⟨V2, hV2⟩ : ∃ V2, V2 = (V.alloc (.cells #[.int .i64 5, .int .i64 6, .int .i64 0, .int .i64 0, .int .i64 7, .int .i64 8, .int .i64 9, .int .i64 10] 3)).drew := ⟨_, rfl⟩
  have qx : V2.row? (b2 + 1) = V.row? (b2 + 1) := by rw [hV2, row_drew, row_alloc_past _ _ _ (row_lt rx)]
  have q8 : V2.row? (b2) = some (insA 0 0 0 0 0) := by rw [hV2, row_drew, row_alloc_past _ _ _ (row_lt r2)]; exact r2
  have qL : V2.row? V.heap.size = some #[.int .i64 5, .int .i64 6, .int .i64 0, .int .i64 0, .int .i64 7, .int .i64 8, .int .i64 9, .int .i64 10] := by rw [hV2, row_drew]; exact row_alloc_at _ _ _ _ rfl
  rw [rx] at qx
  have t1 : V2.cell? ⟨b2 + 1, 2, none⟩ = some (.int .i64 (rs1 : Int)) := by rw [row_cell qx]; rfl
  have t2 : V2.cell? ⟨b2 + 1, 3, none⟩ = some (.int .i64 (rs2 : Int)) := by rw [row_cell qx]; rfl
  have hVC2 : Chg [] w V2 := by rw [hV2]; exact (HVC.out.alloc _).drew
  go_wp2_with fail
  rw [← hV2]
  have HV2 := Lib.hid hVC2
  clear hV2 hVC2
  refine hK _ _ ⟨t1, t2, q8⟩ ?_
  clear hK K
  refine wpT_eff rfl (by rfl) (fun K hK => ?_)
  have hP := pick_any (w := V2) (B := V.heap.size) (c := 8) [5, 6, 0, 0, 7, 8, 9, 10] rfl (fun j u hu => by rw [row_cell qL]; revert hu; match j with | 0 => intro hu; cases hu; rfl | 1 => intro hu; cases hu; rfl | 2 => intro hu; cases hu; rfl | 3 => intro hu; cases hu; rfl | 4 => intro hu; cases hu; rfl | 5 => intro hu; cases hu; rfl | 6 => intro hu; cases hu; rfl | 7 => intro hu; cases hu; rfl | _ + 8 => intro hu; cases hu) f
  obtain ⟨op, hop⟩ : ∃ op, op = ([5, 6, 0, 0, 7, 8, 9, 10] : List Nat).getD f 0 := ⟨_, rfl⟩
  rw [← hop] at hP
  have HOP := Lib.hid hop
  have HP := Lib.hid hP
  clear hop hP
  go_wp2_with fail
  refine HP.out.mono ?_
  rintro e w' ⟨rfl, rfl⟩
  go_wp2_with fail
  refine hK _ _ ⟨t1, t2, q8⟩ ?_
  clear hK K
  refine wpT_call (d := some 66) (f := 18) (args := #[.int .u32 (x : Int)]) (v := .int .u32 (iS : Int)) rfl rfl (by rfl) (fun w' => by first | rfl | go_simp) (fun w' => HS.out w') ?_
  try simp only [Act.put, List.setIfInBounds_toArray, List.set_cons_zero, List.set_cons_succ]
  try simp only [Act.put, List.setIfInBounds_toArray, List.set_cons_zero, List.set_cons_succ]
  refine wpT_pureD (v := ?_) (some 67) rfl rfl (by rfl) (fun w' => ?_) ?_
  rotate_left
  · (go_simp; try with_reducible rfl)
  try simp only [Act.put, List.setIfInBounds_toArray, List.set_cons_zero, List.set_cons_succ]
  refine wpT_eff rfl (by rfl) (fun K hK => ?_)
  have hO : Calls Tryd.prog 29 #[.int .i64 (op : Int), .agg #[.int .i64 0, .int .i64 0, .int .i64 (rs1 : Int), .int .i64 (rs2 : Int), .int .u32 (iS : Int)]] w' fun e w2 => e = .returned (.agg (if op = 0 then insA 0 0 0 0 0 else insA op 0 rs1 rs2 iS)) ∧ Chg [] w' w2 := of_any op 0 rs1 rs2 iS 0 w'
  obtain ⟨R, hR⟩ : ∃ R, R = if op = 0 then insA 0 0 0 0 0 else insA op 0 rs1 rs2 iS := ⟨_, rfl⟩
  have hRs : R.size = 5 := by rw [hR]; split <;> rfl
  have hRa : allOne R = true := by rw [hR]; split <;> rfl
  rw [← hR] at hO
  have HO := Lib.hid hO
  have HR := Lib.hid hR
  clear hO hR
  go_wp2_with fail
  refine HO.out.mono ?_
  rintro e w2 ⟨rfl, hc2⟩
  have k8 : w2.row? (b2) = some (insA 0 0 0 0 0) := by rw [hc2.row (row_lt q8) (by simp)]; exact q8
  have kx := hc2.row (row_lt qx) (by simp)
  rw [qx] at kx
  have k1 : w2.cell? ⟨b2 + 1, 2, none⟩ = some (.int .i64 (rs1 : Int)) := by rw [row_cell kx]; rfl
  have k2 : w2.cell? ⟨b2 + 1, 3, none⟩ = some (.int .i64 (rs2 : Int)) := by rw [row_cell kx]; rfl
  have HC2 : Hid (Chg [] w w2) := Lib.hid (HV2.out.trans hc2)
  clear hc2
  go_wp2_with fail
  refine hK _ _ ⟨k1, k2, k8⟩ ?_
  clear hK K
  refine wpT_brk rfl (by rfl) (fun K hK => ?_)
  go_wp2_with (refine wpList_store_row a26 _ _ rfl rfl rfl rfl rfl k8 rfl hRs hRa ?_)
  refine wpT_end ?_
  go_wp2
  refine bodyPost_ret (ret_cell1 rfl a26 rfl (by rw [row_setRow, if_pos rfl, k8]; rfl) hRs) rfl ?_
  exact ⟨by rw [HRR.out, HR.out, HOP.out, HIS.out, HF.out, HRS1.out, HRS2.out, ofI_A]; rfl, HC2.out.setRow (Or.inr (by have := H2.out; omega)) _⟩
theorem dec_any (x : Nat) (hx : x < 4294967296) (w : World) : Calls Tryd.prog 10 #[.int .u32 (x : Int)] w fun e w' => e = .returned (.agg (decN x).A) ∧ Chg [] w w' := by
  unfold decN
  by_cases h55 : x % 128 = 55
  · rw [if_pos h55]; exact dec55 x hx h55 w
  by_cases h23 : x % 128 = 23
  · rw [if_neg h55, if_pos h23]; exact dec23 x hx h23 w
  by_cases h111 : x % 128 = 111
  · rw [if_neg h55, if_neg h23, if_pos h111]; exact dec111 x hx h111 w
  by_cases h103 : x % 128 = 103
  · rw [if_neg h55, if_neg h23, if_neg h111, if_pos h103]
    by_cases hf : f3N x = 0
    · rw [if_pos hf]; exact dec103 x hx h103 hf w
    · rw [if_neg hf]; exact dec103n x hx h103 hf w
  by_cases h99 : x % 128 = 99
  · rw [if_neg h55, if_neg h23, if_neg h111, if_neg h103, if_pos h99]; exact dec99 x hx h99 w
  rw [if_neg h55, if_neg h23, if_neg h111, if_neg h103, if_neg h99]; exact decMore x hx h55 h23 h111 h103 h99 w
end Go.Proofs.L
