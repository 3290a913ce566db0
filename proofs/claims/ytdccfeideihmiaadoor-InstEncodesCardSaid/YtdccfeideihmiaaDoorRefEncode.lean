/- Proved here: lemmas and contracts (RefEncode) for the laws of this seat, for all values of the stated types; no further condition. -/
import Derived.Test.YtdccfeideihmiaaDoorBackWalk
import Derived.Test.YtdccfeideihmiaaDoorRefSet
open Go Go.RowKit Go.Lib
namespace Go.Proofs.L
attribute [local irreducible] wpT
theorem and64m (v : Int) : bits .and .i64 v 4294967295 = v % 4294967296 := by
  show IntKind.i64.wrap ((BitVec.ofInt 64 v &&& BitVec.ofInt 64 4294967295).toNat : Int) = _
  rw [BitVec.toNat_and, show (BitVec.ofInt 64 4294967295).toNat = 2 ^ 32 - 1 by decide, and_low, BitVec.toNat_ofInt, w64n _ (by omega)]
  omega
theorem and64l (v m n : Nat) (hv : v < 4294967296) (hm : m = 2 ^ n - 1) (hn : m < 4294967296) : bits .and .i64 (v : Int) (m : Int) = ((v % 2 ^ n : Nat) : Int) := by
  rw [and64g v m _ hv hn rfl, hm, and_low]
theorem natne (a b : Nat) (h : ¬ a = b) : ((a : Int) == (b : Int)) = false := by rw [Bool.eq_false_iff]; simp; omega
theorem rdec_k (k x : Nat) (h1 : 1 ≤ k) (h2 : k < 57) (hx : x < 4294967296) (hf : fitsK x k) (w : World) :
    Calls Tryd.prog 11 #[.int .i64 (x : Int)] w fun e w' => ∃ z : Int, z % 4294967296 = ((decN x).imm : Int) ∧ e = .returned (.agg #[.int .i64 (k : Int), .int .i64 ((decN x).rd : Int), .int .i64 ((decN x).rs1 : Int), .int .i64 ((decN x).rs2 : Int), .int .i64 z]) ∧ Chg [] w w' := by
  refine (rdec_any x hx w).mono fun e w' h => ?_
  obtain ⟨h | h, hc⟩ := h
  · obtain ⟨k', a1, a2, hf', rfl⟩ := h
    obtain ⟨e0, e1, e2, e3, e4⟩ := dl_any x k hx h1 h2 hf
    obtain ⟨f0, f1, f2, f3, f4⟩ := dl_any x k' hx a1 a2 hf'
    obtain rfl : k' = k := f0.symm.trans e0
    exact ⟨immL (frmL k') x, e4.symm, by unfold resA; rw [e1, e2, e3], hc⟩
  · exact absurd hf (h.1 k h1 h2)
set_option maxRecDepth 100000 in
set_option maxHeartbeats 1600000 in
theorem renc_U (k rd rs1 rs2 imm : Nat) (h1 : 1 ≤ k) (h2 : k < 57) (hl : frmL k = 85) (hrd : rd < 32) (hrs1 : rs1 < 32) (hrs2 : rs2 < 32) (hi : imm < 4294967296) (w : World) :
    Calls Tryd.prog 13 #[.agg #[.int .i64 (k : Int), .int .i64 (rd : Int), .int .i64 (rs1 : Int), .int .i64 (rs2 : Int), .int .i64 (imm : Int)]] w fun e w' => e = .returned (.tuple #[.int .i64 ((encR 85 (wrdC k) rd rs1 rs2 imm : Nat) : Int), .bool (decide (decN (encR 85 (wrdC k) rd rs1 rs2 imm) = ⟨k, rd, rs1, rs2, imm⟩))]) ∧ Chg [] w w' := by
  obtain ⟨hw32, hfit, _⟩ := de_U k rd rs1 rs2 imm _ h1 h2 hl hrd hrs1 hrs2 hi rfl
  have HDK := Lib.hid (rdec_k k _ h1 h2 hw32 hfit)
  have hop := (dl_any _ k hw32 h1 h2 hfit).1
  obtain ⟨B, hB⟩ : ∃ B, B = w.heap.size := ⟨_, rfl⟩
  obtain ⟨V, hV⟩ : ∃ V, V = w.alloc (.cells #[.int .i64 (k : Int), .int .i64 (rd : Int), .int .i64 (rs1 : Int), .int .i64 (rs2 : Int), .int .i64 (imm : Int)] 29) := ⟨_, rfl⟩
  have hcV : Chg [] w V := by rw [hV]; exact (Chg.refl _ _).alloc _
  have rb : V.row? B = some #[.int .i64 (k : Int), .int .i64 (rd : Int), .int .i64 (rs1 : Int), .int .i64 (rs2 : Int), .int .i64 (imm : Int)] := by rw [hV]; exact row_alloc_at _ _ _ _ hB
  obtain ⟨L, hL⟩ : ∃ L, L = V.heap.size := ⟨_, rfl⟩
  have HLI := list_any V
  rw [← hL] at HLI
  have HLI := Lib.hid HLI
  have HCV := Lib.hid hcV
  have HRB := Lib.hid rb
  have HVV := Lib.hid hV
  have HBB := Lib.hid hB
  obtain ⟨cw, hcw⟩ : ∃ W, W = wrdC k := ⟨_, rfl⟩
  have hc32 := (letK k h2 h1).2.1
  rw [← hcw] at hc32 HDK hop ⊢
  have HCW := Lib.hid hcw
  have HK2 := Lib.hid h2
  have HL := Lib.hid hl
  have g1 : decide ((k : Int) < 1) = false := by simp; omega
  have g2 : decide (57 ≤ (k : Int)) = false := by simp; omega
  have g3 : decide ((rd : Int) < 0) = false := by simp
  have g4 : decide (31 < (rd : Int)) = false := by simp; omega
  have g5 : decide ((rs1 : Int) < 0) = false := by simp
  have g6 : decide (31 < (rs1 : Int)) = false := by simp; omega
  have g7 : decide ((rs2 : Int) < 0) = false := by simp
  have g8 : decide (31 < (rs2 : Int)) = false := by simp; omega
  have hkI : (k : Int) < 57 := by omega
  have n2 : bits .and .i64 (imm : Int) 4294967295 = (imm : Int) := by rw [and64m]; omega
  have l1 : rd * 128 < 4294967296 := by omega
  have e1 : bits .or .i64 (cw : Int) ((rd : Int) * 128) = ((cw ||| rd * 128 : Nat) : Int) := by
    rw [show (rd : Int) * 128 = ((rd * 128 : Nat) : Int) by omega]; exact or64 _ _ hc32 l1
  have v1 : wrap64 ((rd : Int) * 128) = (rd : Int) * 128 := IntWalk.wrap64_in _ ⟨by omega, by omega⟩
  have hb1 := or_lt hc32 l1
  obtain ⟨d1, hd1⟩ : ∃ d, d = cw ||| rd * 128 := ⟨_, rfl⟩
  rw [← hd1] at e1 hb1
  obtain ⟨R, hR⟩ : ∃ R, R = setU d1 imm := ⟨_, rfl⟩
  have hres : encR 85 cw rd rs1 rs2 imm = R := by rw [hR, hd1]; rfl
  have SI : Hid (∀ w, Calls Tryd.prog 27 #[.string ⟨#[85]⟩, .int .i64 (d1 : Int), .int .i64 (imm : Int)] w fun e w' => e = .returned (.int .i64 (R : Int)) ∧ Chg [] w w') := Lib.hid fun w => by rw [hR]; exact rset_U d1 imm hb1 hi w
  rw [hres] at HDK hop ⊢
  have HII := Lib.hid hi
  obtain ⟨i, hi5⟩ : ∃ i, i = decN R := ⟨_, rfl⟩
  rw [← hi5] at HDK hop ⊢
  obtain ⟨io, r1, r2, r3, im⟩ := i
  obtain rfl : k = io := hop.symm
  obtain ⟨p, hp⟩ : ∃ p, p = decide ((⟨k, r1, r2, r3, im⟩ : I5) = ⟨k, rd, rs1, rs2, imm⟩) := ⟨_, rfl⟩
  rw [← hp]
  have HP := Lib.hid hp
  clear hi5 hp hres hcV rb hV hB hL hcw hl h2 h1 hw32 hfit hi hrd hrs1 hrs2 hd1 l1 hb1 hR  hc32
  go_enter Tryd.func13, Tryd.ntmps13
  go_upto_region 1 with (fail)
  rw [← HBB.out, ← HVV.out]
  go_wp2_with fail
  refine HLI.out.mono ?_
  rintro e w1 ⟨rfl, hrow, hc1⟩
  have HC1 := Lib.hid (HCV.out.trans hc1)
  have hrb1 : w1.row? B = some #[.int .i64 (k : Int), .int .i64 (rd : Int), .int .i64 (rs1 : Int), .int .i64 (rs2 : Int), .int .i64 (imm : Int)] := by rw [hc1.row (row_lt HRB.out) (by simp)]; exact HRB.out
  have c0 : w1.cell? ⟨B, 0, none⟩ = some (.int .i64 (k : Int)) := by rw [row_cell hrb1]; rfl
  have c1 : w1.cell? ⟨B, 1, none⟩ = some (.int .i64 (rd : Int)) := by rw [row_cell hrb1]; rfl
  have c2 : w1.cell? ⟨B, 2, none⟩ = some (.int .i64 (rs1 : Int)) := by rw [row_cell hrb1]; rfl
  have c3 : w1.cell? ⟨B, 3, none⟩ = some (.int .i64 (rs2 : Int)) := by rw [row_cell hrb1]; rfl
  have c4 : w1.cell? ⟨B, 4, none⟩ = some (.int .i64 (imm : Int)) := by rw [row_cell hrb1]; rfl
  have cf : w1.cell? ⟨L, k * 2, none⟩ = some (.string ⟨#[85]⟩) := by rw [row_cell hrow, show (⟨#[85]⟩ : ByteArray) = strB (frmL k) by rw [HL.out]; rfl]; simpa using listA_frm k HK2.out
  have cg : w1.cell? ⟨L, k * 2 + 1, none⟩ = some (.int .i64 (cw : Int)) := by rw [row_cell hrow, HCW.out]; simpa using listA_word k HK2.out
  have HRB1 := Lib.hid hrb1
  clear hrow hc1 hrb1 HLI HRB HCV
  go_wp2_with fail
  refine (SI.out _).mono ?_
  rintro e w2 ⟨rfl, hc2⟩
  have hrb2 : w2.row? B = some #[.int .i64 (k : Int), .int .i64 (rd : Int), .int .i64 (rs1 : Int), .int .i64 (rs2 : Int), .int .i64 (imm : Int)] := by rw [hc2.row (row_lt HRB1.out) (by simp)]; exact HRB1.out
  have HRB2 := Lib.hid hrb2
  have HC2 := Lib.hid (HC1.out.trans hc2)
  clear hrb2 hc2 c0 c1 c2 c3 c4 cf cg
  go_wp2_with fail
  refine (HDK.out _).mono ?_
  rintro e w3 ⟨z, hz, rfl, hc3⟩
  have n1 : bits .and .i64 z 4294967295 = (im : Int) := by rw [and64m, hz]
  obtain ⟨C, hC⟩ : ∃ C, C = w3.heap.size := ⟨_, rfl⟩
  obtain ⟨Z, hZ⟩ : ∃ Z, Z = w3.alloc (.cells #[.int .i64 (k : Int), .int .i64 (r1 : Int), .int .i64 (r2 : Int), .int .i64 (r3 : Int), .int .i64 z] 29) := ⟨_, rfl⟩
  have hcZ := hc3.alloc (.cells #[.int .i64 (k : Int), .int .i64 (r1 : Int), .int .i64 (r2 : Int), .int .i64 (r3 : Int), .int .i64 z] 29)
  rw [← hZ] at hcZ
  have rC : Z.row? C = some #[.int .i64 (k : Int), .int .i64 (r1 : Int), .int .i64 (r2 : Int), .int .i64 (r3 : Int), .int .i64 z] := by rw [hZ]; exact row_alloc_at _ _ _ _ hC
  have rB : Z.row? B = some #[.int .i64 (k : Int), .int .i64 (rd : Int), .int .i64 (rs1 : Int), .int .i64 (rs2 : Int), .int .i64 (imm : Int)] := by rw [hcZ.row (row_lt HRB2.out) (by simp)]; exact HRB2.out
  have hBC : B ≠ C := by have := row_lt HRB2.out; have := hc3.size; omega
  have hCw : w.heap.size ≤ C := by have := HC2.out.size; have := hc3.size; omega
  have hBw : w.heap.size ≤ B := by have := HBB.out; omega
  obtain ⟨U, hU⟩ : ∃ U, U = Z.setCell ⟨C, 4, none⟩ (.int .i64 (im : Int)) := ⟨_, rfl⟩
  obtain ⟨T, hT⟩ : ∃ T, T = U.setCell ⟨B, 4, none⟩ (.int .i64 (imm : Int)) := ⟨_, rfl⟩
  have uC : U.row? C = some #[.int .i64 (k : Int), .int .i64 (r1 : Int), .int .i64 (r2 : Int), .int .i64 (r3 : Int), .int .i64 (im : Int)] := by rw [hU, row_setCell_same, rC]; rfl
  have uB : U.row? B = some #[.int .i64 (k : Int), .int .i64 (rd : Int), .int .i64 (rs1 : Int), .int .i64 (rs2 : Int), .int .i64 (imm : Int)] := by rw [hU, row_setCell_other _ _ _ _ (by simpa using hBC)]; exact rB
  have tC : T.row? C = some #[.int .i64 (k : Int), .int .i64 (r1 : Int), .int .i64 (r2 : Int), .int .i64 (r3 : Int), .int .i64 (im : Int)] := by rw [hT, row_setCell_other _ _ _ _ (by simpa using Ne.symm hBC)]; exact uC
  have tB : T.row? B = some #[.int .i64 (k : Int), .int .i64 (rd : Int), .int .i64 (rs1 : Int), .int .i64 (rs2 : Int), .int .i64 (imm : Int)] := by rw [hT, row_setCell_same, uB]; rfl
  have HCT : Hid (Chg [] w T) := Lib.hid (by rw [hT, hU]; exact ((HC2.out.trans hcZ).setCell (Or.inr hCw) _).setCell (Or.inr hBw) _)
  have z4 : Z.cell? ⟨C, 4, none⟩ = some (.int .i64 z) := by rw [row_cell rC]; rfl
  have b4 : U.cell? ⟨B, 4, none⟩ = some (.int .i64 (imm : Int)) := by rw [row_cell uB]; rfl
  have fC := row_free rC 4
  have fB := row_free uB 4
  have TB := Lib.hid tB
  have TC := Lib.hid tC
  have HZ := Lib.hid hZ
  have HU := Lib.hid hU
  have HT := Lib.hid hT
  have HCC := Lib.hid hC
  clear hz hc3 hZ hcZ rC rB hBC hCw hBw hU hT uC uB tC tB hC
  go_upto_region 19 with (refine wpList_store_new a29 _ _ rfl rfl rfl rfl rfl rfl rfl rfl ?_)
  rw [← HCC.out, ← HZ.out]
  go_upto_region 20 with (fail)
  rw [← HU.out]
  go_upto_region 21 with (fail)
  rw [← HT.out]
  clear z4 b4 fC fB
  refine wp_region_C (fun w' => w'.row? C = some #[.int .i64 (k : Int), .int .i64 (r1 : Int), .int .i64 (r2 : Int), .int .i64 (r3 : Int), .int .i64 (im : Int)] ∧ w'.row? B = some #[.int .i64 (k : Int), .int .i64 (rd : Int), .int .i64 (rs1 : Int), .int .i64 (rs2 : Int), .int .i64 (imm : Int)]) [(0, 0), (1, 1), (2, 1), (3, 0), (4, 0), (5, 0)] rfl (by kernel_rfl) ?hSU ?hTU
  case hSU => exact ⟨TC.out, TB.out⟩
  refine wpT_pureD (v := ?_) (some 183) rfl rfl (by rfl) (fun w' => ?_) ?_
  rotate_left
  · (go_simp; try with_reducible rfl)
  try simp only [Act.put, List.setIfInBounds_toArray, List.set_cons_zero, List.set_cons_succ]
  refine wpT_load_part a29 [.int .i64 (k : Int), .int .i64 (r1 : Int), .int .i64 (r2 : Int), .int .i64 (r3 : Int), .int .i64 (im : Int)] (some 184) _ rfl rfl rfl (by rfl) rfl rfl (fun w' hw j u hu => by rw [Nat.zero_add, row_cell hw.1]; simpa using hu) ?_
  try simp only [Act.put, List.setIfInBounds_toArray, List.set_cons_zero, List.set_cons_succ]
  refine wpT_load_part a29 [.int .i64 (k : Int), .int .i64 (rd : Int), .int .i64 (rs1 : Int), .int .i64 (rs2 : Int), .int .i64 (imm : Int)] (some 185) _ rfl rfl rfl (by rfl) rfl rfl (fun w' hw j u hu => by rw [Nat.zero_add, row_cell hw.2]; simpa using hu) ?_
  try simp only [Act.put, List.setIfInBounds_toArray, List.set_cons_zero, List.set_cons_succ]
  refine wpT_pureD (v := .bool p) (some 186) rfl rfl (by rfl) (fun w' => ?_) ?_
  · rw [HP.out]
    by_cases q1 : r1 = rd
    · subst q1
      by_cases q2 : r2 = rs1
      · subst q2
        by_cases q3 : r3 = rs2
        · subst q3
          by_cases q4 : im = imm
          · subst q4
            go_simp
          · have z1 : ((im : Int) == (imm : Int)) = false := natne _ _ q4
            go_simp
        · have z1 : ((r3 : Int) == (rs2 : Int)) = false := natne _ _ q3
          go_simp
      · have z1 : ((r2 : Int) == (rs1 : Int)) = false := natne _ _ q2
        go_simp
    · have z1 : ((r1 : Int) == (rd : Int)) = false := natne _ _ q1
      go_simp
  try simp only [Act.put, List.setIfInBounds_toArray, List.set_cons_zero, List.set_cons_succ]
  refine wpT_pureD (v := ?_) (some 2) rfl rfl (by rfl) (fun w' => ?_) ?_
  rotate_left
  · (go_simp; try with_reducible rfl)
  try simp only [Act.put, List.setIfInBounds_toArray, List.set_cons_zero, List.set_cons_succ]
  refine wpT_pureD (v := ?_) (some 3) rfl rfl (by rfl) (fun w' => ?_) ?_
  rotate_left
  · (go_simp; try with_reducible rfl)
  try simp only [Act.put, List.setIfInBounds_toArray, List.set_cons_zero, List.set_cons_succ]
  refine wpT_end ?_
  go_wp2
  go_ret2
  exact ⟨rfl, HCT.out.drew⟩
set_option maxRecDepth 100000 in
set_option maxHeartbeats 1600000 in
theorem renc_J (k rd rs1 rs2 imm : Nat) (h1 : 1 ≤ k) (h2 : k < 57) (hl : frmL k = 74) (hrd : rd < 32) (hrs1 : rs1 < 32) (hrs2 : rs2 < 32) (hi : imm < 4294967296) (w : World) :
    Calls Tryd.prog 13 #[.agg #[.int .i64 (k : Int), .int .i64 (rd : Int), .int .i64 (rs1 : Int), .int .i64 (rs2 : Int), .int .i64 (imm : Int)]] w fun e w' => e = .returned (.tuple #[.int .i64 ((encR 74 (wrdC k) rd rs1 rs2 imm : Nat) : Int), .bool (decide (decN (encR 74 (wrdC k) rd rs1 rs2 imm) = ⟨k, rd, rs1, rs2, imm⟩))]) ∧ Chg [] w w' := by
  obtain ⟨hw32, hfit, _⟩ := de_J k rd rs1 rs2 imm _ h1 h2 hl hrd hrs1 hrs2 hi rfl
  have HDK := Lib.hid (rdec_k k _ h1 h2 hw32 hfit)
  have hop := (dl_any _ k hw32 h1 h2 hfit).1
  obtain ⟨B, hB⟩ : ∃ B, B = w.heap.size := ⟨_, rfl⟩
  obtain ⟨V, hV⟩ : ∃ V, V = w.alloc (.cells #[.int .i64 (k : Int), .int .i64 (rd : Int), .int .i64 (rs1 : Int), .int .i64 (rs2 : Int), .int .i64 (imm : Int)] 29) := ⟨_, rfl⟩
  have hcV : Chg [] w V := by rw [hV]; exact (Chg.refl _ _).alloc _
  have rb : V.row? B = some #[.int .i64 (k : Int), .int .i64 (rd : Int), .int .i64 (rs1 : Int), .int .i64 (rs2 : Int), .int .i64 (imm : Int)] := by rw [hV]; exact row_alloc_at _ _ _ _ hB
  obtain ⟨L, hL⟩ : ∃ L, L = V.heap.size := ⟨_, rfl⟩
  have HLI := list_any V
  rw [← hL] at HLI
  have HLI := Lib.hid HLI
  have HCV := Lib.hid hcV
  have HRB := Lib.hid rb
  have HVV := Lib.hid hV
  have HBB := Lib.hid hB
  obtain ⟨cw, hcw⟩ : ∃ W, W = wrdC k := ⟨_, rfl⟩
  have hc32 := (letK k h2 h1).2.1
  rw [← hcw] at hc32 HDK hop ⊢
  have HCW := Lib.hid hcw
  have HK2 := Lib.hid h2
  have HL := Lib.hid hl
  have g1 : decide ((k : Int) < 1) = false := by simp; omega
  have g2 : decide (57 ≤ (k : Int)) = false := by simp; omega
  have g3 : decide ((rd : Int) < 0) = false := by simp
  have g4 : decide (31 < (rd : Int)) = false := by simp; omega
  have g5 : decide ((rs1 : Int) < 0) = false := by simp
  have g6 : decide (31 < (rs1 : Int)) = false := by simp; omega
  have g7 : decide ((rs2 : Int) < 0) = false := by simp
  have g8 : decide (31 < (rs2 : Int)) = false := by simp; omega
  have hkI : (k : Int) < 57 := by omega
  have n2 : bits .and .i64 (imm : Int) 4294967295 = (imm : Int) := by rw [and64m]; omega
  have l1 : rd * 128 < 4294967296 := by omega
  have e1 : bits .or .i64 (cw : Int) ((rd : Int) * 128) = ((cw ||| rd * 128 : Nat) : Int) := by
    rw [show (rd : Int) * 128 = ((rd * 128 : Nat) : Int) by omega]; exact or64 _ _ hc32 l1
  have v1 : wrap64 ((rd : Int) * 128) = (rd : Int) * 128 := IntWalk.wrap64_in _ ⟨by omega, by omega⟩
  have hb1 := or_lt hc32 l1
  obtain ⟨d1, hd1⟩ : ∃ d, d = cw ||| rd * 128 := ⟨_, rfl⟩
  rw [← hd1] at e1 hb1
  obtain ⟨R, hR⟩ : ∃ R, R = setJ d1 imm := ⟨_, rfl⟩
  have hres : encR 74 cw rd rs1 rs2 imm = R := by rw [hR, hd1]; rfl
  have SI : Hid (∀ w, Calls Tryd.prog 27 #[.string ⟨#[74]⟩, .int .i64 (d1 : Int), .int .i64 (imm : Int)] w fun e w' => e = .returned (.int .i64 (R : Int)) ∧ Chg [] w w') := Lib.hid fun w => by rw [hR]; exact rset_J d1 imm hb1 hi w
  rw [hres] at HDK hop ⊢
  have HII := Lib.hid hi
  obtain ⟨i, hi5⟩ : ∃ i, i = decN R := ⟨_, rfl⟩
  rw [← hi5] at HDK hop ⊢
  obtain ⟨io, r1, r2, r3, im⟩ := i
  obtain rfl : k = io := hop.symm
  obtain ⟨p, hp⟩ : ∃ p, p = decide ((⟨k, r1, r2, r3, im⟩ : I5) = ⟨k, rd, rs1, rs2, imm⟩) := ⟨_, rfl⟩
  rw [← hp]
  have HP := Lib.hid hp
  clear hi5 hp hres hcV rb hV hB hL hcw hl h2 h1 hw32 hfit hi hrd hrs1 hrs2 hd1 l1 hb1 hR  hc32
  go_enter Tryd.func13, Tryd.ntmps13
  go_upto_region 1 with (fail)
  rw [← HBB.out, ← HVV.out]
  go_wp2_with fail
  refine HLI.out.mono ?_
  rintro e w1 ⟨rfl, hrow, hc1⟩
  have HC1 := Lib.hid (HCV.out.trans hc1)
  have hrb1 : w1.row? B = some #[.int .i64 (k : Int), .int .i64 (rd : Int), .int .i64 (rs1 : Int), .int .i64 (rs2 : Int), .int .i64 (imm : Int)] := by rw [hc1.row (row_lt HRB.out) (by simp)]; exact HRB.out
  have c0 : w1.cell? ⟨B, 0, none⟩ = some (.int .i64 (k : Int)) := by rw [row_cell hrb1]; rfl
  have c1 : w1.cell? ⟨B, 1, none⟩ = some (.int .i64 (rd : Int)) := by rw [row_cell hrb1]; rfl
  have c2 : w1.cell? ⟨B, 2, none⟩ = some (.int .i64 (rs1 : Int)) := by rw [row_cell hrb1]; rfl
  have c3 : w1.cell? ⟨B, 3, none⟩ = some (.int .i64 (rs2 : Int)) := by rw [row_cell hrb1]; rfl
  have c4 : w1.cell? ⟨B, 4, none⟩ = some (.int .i64 (imm : Int)) := by rw [row_cell hrb1]; rfl
  have cf : w1.cell? ⟨L, k * 2, none⟩ = some (.string ⟨#[74]⟩) := by rw [row_cell hrow, show (⟨#[74]⟩ : ByteArray) = strB (frmL k) by rw [HL.out]; rfl]; simpa using listA_frm k HK2.out
  have cg : w1.cell? ⟨L, k * 2 + 1, none⟩ = some (.int .i64 (cw : Int)) := by rw [row_cell hrow, HCW.out]; simpa using listA_word k HK2.out
  have HRB1 := Lib.hid hrb1
  clear hrow hc1 hrb1 HLI HRB HCV
  go_wp2_with fail
  refine (SI.out _).mono ?_
  rintro e w2 ⟨rfl, hc2⟩
  have hrb2 : w2.row? B = some #[.int .i64 (k : Int), .int .i64 (rd : Int), .int .i64 (rs1 : Int), .int .i64 (rs2 : Int), .int .i64 (imm : Int)] := by rw [hc2.row (row_lt HRB1.out) (by simp)]; exact HRB1.out
  have HRB2 := Lib.hid hrb2
  have HC2 := Lib.hid (HC1.out.trans hc2)
  clear hrb2 hc2 c0 c1 c2 c3 c4 cf cg
  go_wp2_with fail
  refine (HDK.out _).mono ?_
  rintro e w3 ⟨z, hz, rfl, hc3⟩
  have n1 : bits .and .i64 z 4294967295 = (im : Int) := by rw [and64m, hz]
  obtain ⟨C, hC⟩ : ∃ C, C = w3.heap.size := ⟨_, rfl⟩
  obtain ⟨Z, hZ⟩ : ∃ Z, Z = w3.alloc (.cells #[.int .i64 (k : Int), .int .i64 (r1 : Int), .int .i64 (r2 : Int), .int .i64 (r3 : Int), .int .i64 z] 29) := ⟨_, rfl⟩
  have hcZ := hc3.alloc (.cells #[.int .i64 (k : Int), .int .i64 (r1 : Int), .int .i64 (r2 : Int), .int .i64 (r3 : Int), .int .i64 z] 29)
  rw [← hZ] at hcZ
  have rC : Z.row? C = some #[.int .i64 (k : Int), .int .i64 (r1 : Int), .int .i64 (r2 : Int), .int .i64 (r3 : Int), .int .i64 z] := by rw [hZ]; exact row_alloc_at _ _ _ _ hC
  have rB : Z.row? B = some #[.int .i64 (k : Int), .int .i64 (rd : Int), .int .i64 (rs1 : Int), .int .i64 (rs2 : Int), .int .i64 (imm : Int)] := by rw [hcZ.row (row_lt HRB2.out) (by simp)]; exact HRB2.out
  have hBC : B ≠ C := by have := row_lt HRB2.out; have := hc3.size; omega
  have hCw : w.heap.size ≤ C := by have := HC2.out.size; have := hc3.size; omega
  have hBw : w.heap.size ≤ B := by have := HBB.out; omega
  obtain ⟨U, hU⟩ : ∃ U, U = Z.setCell ⟨C, 4, none⟩ (.int .i64 (im : Int)) := ⟨_, rfl⟩
  obtain ⟨T, hT⟩ : ∃ T, T = U.setCell ⟨B, 4, none⟩ (.int .i64 (imm : Int)) := ⟨_, rfl⟩
  have uC : U.row? C = some #[.int .i64 (k : Int), .int .i64 (r1 : Int), .int .i64 (r2 : Int), .int .i64 (r3 : Int), .int .i64 (im : Int)] := by rw [hU, row_setCell_same, rC]; rfl
  have uB : U.row? B = some #[.int .i64 (k : Int), .int .i64 (rd : Int), .int .i64 (rs1 : Int), .int .i64 (rs2 : Int), .int .i64 (imm : Int)] := by rw [hU, row_setCell_other _ _ _ _ (by simpa using hBC)]; exact rB
  have tC : T.row? C = some #[.int .i64 (k : Int), .int .i64 (r1 : Int), .int .i64 (r2 : Int), .int .i64 (r3 : Int), .int .i64 (im : Int)] := by rw [hT, row_setCell_other _ _ _ _ (by simpa using Ne.symm hBC)]; exact uC
  have tB : T.row? B = some #[.int .i64 (k : Int), .int .i64 (rd : Int), .int .i64 (rs1 : Int), .int .i64 (rs2 : Int), .int .i64 (imm : Int)] := by rw [hT, row_setCell_same, uB]; rfl
  have HCT : Hid (Chg [] w T) := Lib.hid (by rw [hT, hU]; exact ((HC2.out.trans hcZ).setCell (Or.inr hCw) _).setCell (Or.inr hBw) _)
  have z4 : Z.cell? ⟨C, 4, none⟩ = some (.int .i64 z) := by rw [row_cell rC]; rfl
  have b4 : U.cell? ⟨B, 4, none⟩ = some (.int .i64 (imm : Int)) := by rw [row_cell uB]; rfl
  have fC := row_free rC 4
  have fB := row_free uB 4
  have TB := Lib.hid tB
  have TC := Lib.hid tC
  have HZ := Lib.hid hZ
  have HU := Lib.hid hU
  have HT := Lib.hid hT
  have HCC := Lib.hid hC
  clear hz hc3 hZ hcZ rC rB hBC hCw hBw hU hT uC uB tC tB hC
  go_upto_region 19 with (refine wpList_store_new a29 _ _ rfl rfl rfl rfl rfl rfl rfl rfl ?_)
  rw [← HCC.out, ← HZ.out]
  go_upto_region 20 with (fail)
  rw [← HU.out]
  go_upto_region 21 with (fail)
  rw [← HT.out]
  clear z4 b4 fC fB
  refine wp_region_C (fun w' => w'.row? C = some #[.int .i64 (k : Int), .int .i64 (r1 : Int), .int .i64 (r2 : Int), .int .i64 (r3 : Int), .int .i64 (im : Int)] ∧ w'.row? B = some #[.int .i64 (k : Int), .int .i64 (rd : Int), .int .i64 (rs1 : Int), .int .i64 (rs2 : Int), .int .i64 (imm : Int)]) [(0, 0), (1, 1), (2, 1), (3, 0), (4, 0), (5, 0)] rfl (by kernel_rfl) ?hSJ ?hTJ
  case hSJ => exact ⟨TC.out, TB.out⟩
  refine wpT_pureD (v := ?_) (some 183) rfl rfl (by rfl) (fun w' => ?_) ?_
  rotate_left
  · (go_simp; try with_reducible rfl)
  try simp only [Act.put, List.setIfInBounds_toArray, List.set_cons_zero, List.set_cons_succ]
  refine wpT_load_part a29 [.int .i64 (k : Int), .int .i64 (r1 : Int), .int .i64 (r2 : Int), .int .i64 (r3 : Int), .int .i64 (im : Int)] (some 184) _ rfl rfl rfl (by rfl) rfl rfl (fun w' hw j u hu => by rw [Nat.zero_add, row_cell hw.1]; simpa using hu) ?_
  try simp only [Act.put, List.setIfInBounds_toArray, List.set_cons_zero, List.set_cons_succ]
  refine wpT_load_part a29 [.int .i64 (k : Int), .int .i64 (rd : Int), .int .i64 (rs1 : Int), .int .i64 (rs2 : Int), .int .i64 (imm : Int)] (some 185) _ rfl rfl rfl (by rfl) rfl rfl (fun w' hw j u hu => by rw [Nat.zero_add, row_cell hw.2]; simpa using hu) ?_
  try simp only [Act.put, List.setIfInBounds_toArray, List.set_cons_zero, List.set_cons_succ]
  refine wpT_pureD (v := .bool p) (some 186) rfl rfl (by rfl) (fun w' => ?_) ?_
  · rw [HP.out]
    by_cases q1 : r1 = rd
    · subst q1
      by_cases q2 : r2 = rs1
      · subst q2
        by_cases q3 : r3 = rs2
        · subst q3
          by_cases q4 : im = imm
          · subst q4
            go_simp
          · have z1 : ((im : Int) == (imm : Int)) = false := natne _ _ q4
            go_simp
        · have z1 : ((r3 : Int) == (rs2 : Int)) = false := natne _ _ q3
          go_simp
      · have z1 : ((r2 : Int) == (rs1 : Int)) = false := natne _ _ q2
        go_simp
    · have z1 : ((r1 : Int) == (rd : Int)) = false := natne _ _ q1
      go_simp
  try simp only [Act.put, List.setIfInBounds_toArray, List.set_cons_zero, List.set_cons_succ]
  refine wpT_pureD (v := ?_) (some 2) rfl rfl (by rfl) (fun w' => ?_) ?_
  rotate_left
  · (go_simp; try with_reducible rfl)
  try simp only [Act.put, List.setIfInBounds_toArray, List.set_cons_zero, List.set_cons_succ]
  refine wpT_pureD (v := ?_) (some 3) rfl rfl (by rfl) (fun w' => ?_) ?_
  rotate_left
  · (go_simp; try with_reducible rfl)
  try simp only [Act.put, List.setIfInBounds_toArray, List.set_cons_zero, List.set_cons_succ]
  refine wpT_end ?_
  go_wp2
  go_ret2
  exact ⟨rfl, HCT.out.drew⟩
set_option maxRecDepth 100000 in
set_option maxHeartbeats 1600000 in
theorem renc_I (k rd rs1 rs2 imm : Nat) (h1 : 1 ≤ k) (h2 : k < 57) (hl : frmL k = 73) (hrd : rd < 32) (hrs1 : rs1 < 32) (hrs2 : rs2 < 32) (hi : imm < 4294967296) (w : World) :
    Calls Tryd.prog 13 #[.agg #[.int .i64 (k : Int), .int .i64 (rd : Int), .int .i64 (rs1 : Int), .int .i64 (rs2 : Int), .int .i64 (imm : Int)]] w fun e w' => e = .returned (.tuple #[.int .i64 ((encR 73 (wrdC k) rd rs1 rs2 imm : Nat) : Int), .bool (decide (decN (encR 73 (wrdC k) rd rs1 rs2 imm) = ⟨k, rd, rs1, rs2, imm⟩))]) ∧ Chg [] w w' := by
  obtain ⟨hw32, hfit, _⟩ := de_I k rd rs1 rs2 imm _ h1 h2 hl hrd hrs1 hrs2 hi rfl
  have HDK := Lib.hid (rdec_k k _ h1 h2 hw32 hfit)
  have hop := (dl_any _ k hw32 h1 h2 hfit).1
  obtain ⟨B, hB⟩ : ∃ B, B = w.heap.size := ⟨_, rfl⟩
  obtain ⟨V, hV⟩ : ∃ V, V = w.alloc (.cells #[.int .i64 (k : Int), .int .i64 (rd : Int), .int .i64 (rs1 : Int), .int .i64 (rs2 : Int), .int .i64 (imm : Int)] 29) := ⟨_, rfl⟩
  have hcV : Chg [] w V := by rw [hV]; exact (Chg.refl _ _).alloc _
  have rb : V.row? B = some #[.int .i64 (k : Int), .int .i64 (rd : Int), .int .i64 (rs1 : Int), .int .i64 (rs2 : Int), .int .i64 (imm : Int)] := by rw [hV]; exact row_alloc_at _ _ _ _ hB
  obtain ⟨L, hL⟩ : ∃ L, L = V.heap.size := ⟨_, rfl⟩
  have HLI := list_any V
  rw [← hL] at HLI
  have HLI := Lib.hid HLI
  have HCV := Lib.hid hcV
  have HRB := Lib.hid rb
  have HVV := Lib.hid hV
  have HBB := Lib.hid hB
  obtain ⟨cw, hcw⟩ : ∃ W, W = wrdC k := ⟨_, rfl⟩
  have hc32 := (letK k h2 h1).2.1
  rw [← hcw] at hc32 HDK hop ⊢
  have HCW := Lib.hid hcw
  have HK2 := Lib.hid h2
  have HL := Lib.hid hl
  have g1 : decide ((k : Int) < 1) = false := by simp; omega
  have g2 : decide (57 ≤ (k : Int)) = false := by simp; omega
  have g3 : decide ((rd : Int) < 0) = false := by simp
  have g4 : decide (31 < (rd : Int)) = false := by simp; omega
  have g5 : decide ((rs1 : Int) < 0) = false := by simp
  have g6 : decide (31 < (rs1 : Int)) = false := by simp; omega
  have g7 : decide ((rs2 : Int) < 0) = false := by simp
  have g8 : decide (31 < (rs2 : Int)) = false := by simp; omega
  have hkI : (k : Int) < 57 := by omega
  have n2 : bits .and .i64 (imm : Int) 4294967295 = (imm : Int) := by rw [and64m]; omega
  have l1 : rd * 128 < 4294967296 := by omega
  have e1 : bits .or .i64 (cw : Int) ((rd : Int) * 128) = ((cw ||| rd * 128 : Nat) : Int) := by
    rw [show (rd : Int) * 128 = ((rd * 128 : Nat) : Int) by omega]; exact or64 _ _ hc32 l1
  have v1 : wrap64 ((rd : Int) * 128) = (rd : Int) * 128 := IntWalk.wrap64_in _ ⟨by omega, by omega⟩
  have hb1 := or_lt hc32 l1
  obtain ⟨d1, hd1⟩ : ∃ d, d = cw ||| rd * 128 := ⟨_, rfl⟩
  rw [← hd1] at e1 hb1
  have l2 : rs1 * 32768 < 4294967296 := by omega
  have e2 : bits .or .i64 (d1 : Int) ((rs1 : Int) * 32768) = ((d1 ||| rs1 * 32768 : Nat) : Int) := by
    rw [show (rs1 : Int) * 32768 = ((rs1 * 32768 : Nat) : Int) by omega]; exact or64 _ _ hb1 l2
  have v2 : wrap64 ((rs1 : Int) * 32768) = (rs1 : Int) * 32768 := IntWalk.wrap64_in _ ⟨by omega, by omega⟩
  have hb2 := or_lt hb1 l2
  obtain ⟨d2, hd2⟩ : ∃ d, d = d1 ||| rs1 * 32768 := ⟨_, rfl⟩
  rw [← hd2] at e2 hb2
  obtain ⟨R, hR⟩ : ∃ R, R = setI d2 imm := ⟨_, rfl⟩
  have hres : encR 73 cw rd rs1 rs2 imm = R := by rw [hR, hd2, hd1]; rfl
  have SI : Hid (∀ w, Calls Tryd.prog 27 #[.string ⟨#[73]⟩, .int .i64 (d2 : Int), .int .i64 (imm : Int)] w fun e w' => e = .returned (.int .i64 (R : Int)) ∧ Chg [] w w') := Lib.hid fun w => by rw [hR]; exact rset_I d2 imm hb2 hi w
  rw [hres] at HDK hop ⊢
  have HII := Lib.hid hi
  obtain ⟨i, hi5⟩ : ∃ i, i = decN R := ⟨_, rfl⟩
  rw [← hi5] at HDK hop ⊢
  obtain ⟨io, r1, r2, r3, im⟩ := i
  obtain rfl : k = io := hop.symm
  obtain ⟨p, hp⟩ : ∃ p, p = decide ((⟨k, r1, r2, r3, im⟩ : I5) = ⟨k, rd, rs1, rs2, imm⟩) := ⟨_, rfl⟩
  rw [← hp]
  have HP := Lib.hid hp
  clear hi5 hp hres hcV rb hV hB hL hcw hl h2 h1 hw32 hfit hi hrd hrs1 hrs2 hd1 l1 hb1 hd2 l2 hb2 hR  hc32
  go_enter Tryd.func13, Tryd.ntmps13
  go_upto_region 1 with (fail)
  rw [← HBB.out, ← HVV.out]
  go_wp2_with fail
  refine HLI.out.mono ?_
  rintro e w1 ⟨rfl, hrow, hc1⟩
  have HC1 := Lib.hid (HCV.out.trans hc1)
  have hrb1 : w1.row? B = some #[.int .i64 (k : Int), .int .i64 (rd : Int), .int .i64 (rs1 : Int), .int .i64 (rs2 : Int), .int .i64 (imm : Int)] := by rw [hc1.row (row_lt HRB.out) (by simp)]; exact HRB.out
  have c0 : w1.cell? ⟨B, 0, none⟩ = some (.int .i64 (k : Int)) := by rw [row_cell hrb1]; rfl
  have c1 : w1.cell? ⟨B, 1, none⟩ = some (.int .i64 (rd : Int)) := by rw [row_cell hrb1]; rfl
  have c2 : w1.cell? ⟨B, 2, none⟩ = some (.int .i64 (rs1 : Int)) := by rw [row_cell hrb1]; rfl
  have c3 : w1.cell? ⟨B, 3, none⟩ = some (.int .i64 (rs2 : Int)) := by rw [row_cell hrb1]; rfl
  have c4 : w1.cell? ⟨B, 4, none⟩ = some (.int .i64 (imm : Int)) := by rw [row_cell hrb1]; rfl
  have cf : w1.cell? ⟨L, k * 2, none⟩ = some (.string ⟨#[73]⟩) := by rw [row_cell hrow, show (⟨#[73]⟩ : ByteArray) = strB (frmL k) by rw [HL.out]; rfl]; simpa using listA_frm k HK2.out
  have cg : w1.cell? ⟨L, k * 2 + 1, none⟩ = some (.int .i64 (cw : Int)) := by rw [row_cell hrow, HCW.out]; simpa using listA_word k HK2.out
  have HRB1 := Lib.hid hrb1
  clear hrow hc1 hrb1 HLI HRB HCV
  go_wp2_with fail
  refine (SI.out _).mono ?_
  rintro e w2 ⟨rfl, hc2⟩
  have hrb2 : w2.row? B = some #[.int .i64 (k : Int), .int .i64 (rd : Int), .int .i64 (rs1 : Int), .int .i64 (rs2 : Int), .int .i64 (imm : Int)] := by rw [hc2.row (row_lt HRB1.out) (by simp)]; exact HRB1.out
  have HRB2 := Lib.hid hrb2
  have HC2 := Lib.hid (HC1.out.trans hc2)
  clear hrb2 hc2 c0 c1 c2 c3 c4 cf cg
  go_wp2_with fail
  refine (HDK.out _).mono ?_
  rintro e w3 ⟨z, hz, rfl, hc3⟩
  have n1 : bits .and .i64 z 4294967295 = (im : Int) := by rw [and64m, hz]
  obtain ⟨C, hC⟩ : ∃ C, C = w3.heap.size := ⟨_, rfl⟩
  obtain ⟨Z, hZ⟩ : ∃ Z, Z = w3.alloc (.cells #[.int .i64 (k : Int), .int .i64 (r1 : Int), .int .i64 (r2 : Int), .int .i64 (r3 : Int), .int .i64 z] 29) := ⟨_, rfl⟩
  have hcZ := hc3.alloc (.cells #[.int .i64 (k : Int), .int .i64 (r1 : Int), .int .i64 (r2 : Int), .int .i64 (r3 : Int), .int .i64 z] 29)
  rw [← hZ] at hcZ
  have rC : Z.row? C = some #[.int .i64 (k : Int), .int .i64 (r1 : Int), .int .i64 (r2 : Int), .int .i64 (r3 : Int), .int .i64 z] := by rw [hZ]; exact row_alloc_at _ _ _ _ hC
  have rB : Z.row? B = some #[.int .i64 (k : Int), .int .i64 (rd : Int), .int .i64 (rs1 : Int), .int .i64 (rs2 : Int), .int .i64 (imm : Int)] := by rw [hcZ.row (row_lt HRB2.out) (by simp)]; exact HRB2.out
  have hBC : B ≠ C := by have := row_lt HRB2.out; have := hc3.size; omega
  have hCw : w.heap.size ≤ C := by have := HC2.out.size; have := hc3.size; omega
  have hBw : w.heap.size ≤ B := by have := HBB.out; omega
  obtain ⟨U, hU⟩ : ∃ U, U = Z.setCell ⟨C, 4, none⟩ (.int .i64 (im : Int)) := ⟨_, rfl⟩
  obtain ⟨T, hT⟩ : ∃ T, T = U.setCell ⟨B, 4, none⟩ (.int .i64 (imm : Int)) := ⟨_, rfl⟩
  have uC : U.row? C = some #[.int .i64 (k : Int), .int .i64 (r1 : Int), .int .i64 (r2 : Int), .int .i64 (r3 : Int), .int .i64 (im : Int)] := by rw [hU, row_setCell_same, rC]; rfl
  have uB : U.row? B = some #[.int .i64 (k : Int), .int .i64 (rd : Int), .int .i64 (rs1 : Int), .int .i64 (rs2 : Int), .int .i64 (imm : Int)] := by rw [hU, row_setCell_other _ _ _ _ (by simpa using hBC)]; exact rB
  have tC : T.row? C = some #[.int .i64 (k : Int), .int .i64 (r1 : Int), .int .i64 (r2 : Int), .int .i64 (r3 : Int), .int .i64 (im : Int)] := by rw [hT, row_setCell_other _ _ _ _ (by simpa using Ne.symm hBC)]; exact uC
  have tB : T.row? B = some #[.int .i64 (k : Int), .int .i64 (rd : Int), .int .i64 (rs1 : Int), .int .i64 (rs2 : Int), .int .i64 (imm : Int)] := by rw [hT, row_setCell_same, uB]; rfl
  have HCT : Hid (Chg [] w T) := Lib.hid (by rw [hT, hU]; exact ((HC2.out.trans hcZ).setCell (Or.inr hCw) _).setCell (Or.inr hBw) _)
  have z4 : Z.cell? ⟨C, 4, none⟩ = some (.int .i64 z) := by rw [row_cell rC]; rfl
  have b4 : U.cell? ⟨B, 4, none⟩ = some (.int .i64 (imm : Int)) := by rw [row_cell uB]; rfl
  have fC := row_free rC 4
  have fB := row_free uB 4
  have TB := Lib.hid tB
  have TC := Lib.hid tC
  have HZ := Lib.hid hZ
  have HU := Lib.hid hU
  have HT := Lib.hid hT
  have HCC := Lib.hid hC
  clear hz hc3 hZ hcZ rC rB hBC hCw hBw hU hT uC uB tC tB hC
  go_upto_region 19 with (refine wpList_store_new a29 _ _ rfl rfl rfl rfl rfl rfl rfl rfl ?_)
  rw [← HCC.out, ← HZ.out]
  go_upto_region 20 with (fail)
  rw [← HU.out]
  go_upto_region 21 with (fail)
  rw [← HT.out]
  clear z4 b4 fC fB
  refine wp_region_C (fun w' => w'.row? C = some #[.int .i64 (k : Int), .int .i64 (r1 : Int), .int .i64 (r2 : Int), .int .i64 (r3 : Int), .int .i64 (im : Int)] ∧ w'.row? B = some #[.int .i64 (k : Int), .int .i64 (rd : Int), .int .i64 (rs1 : Int), .int .i64 (rs2 : Int), .int .i64 (imm : Int)]) [(0, 0), (1, 1), (2, 1), (3, 0), (4, 0), (5, 0)] rfl (by kernel_rfl) ?hSI ?hTI
  case hSI => exact ⟨TC.out, TB.out⟩
  refine wpT_pureD (v := ?_) (some 183) rfl rfl (by rfl) (fun w' => ?_) ?_
  rotate_left
  · (go_simp; try with_reducible rfl)
  try simp only [Act.put, List.setIfInBounds_toArray, List.set_cons_zero, List.set_cons_succ]
  refine wpT_load_part a29 [.int .i64 (k : Int), .int .i64 (r1 : Int), .int .i64 (r2 : Int), .int .i64 (r3 : Int), .int .i64 (im : Int)] (some 184) _ rfl rfl rfl (by rfl) rfl rfl (fun w' hw j u hu => by rw [Nat.zero_add, row_cell hw.1]; simpa using hu) ?_
  try simp only [Act.put, List.setIfInBounds_toArray, List.set_cons_zero, List.set_cons_succ]
  refine wpT_load_part a29 [.int .i64 (k : Int), .int .i64 (rd : Int), .int .i64 (rs1 : Int), .int .i64 (rs2 : Int), .int .i64 (imm : Int)] (some 185) _ rfl rfl rfl (by rfl) rfl rfl (fun w' hw j u hu => by rw [Nat.zero_add, row_cell hw.2]; simpa using hu) ?_
  try simp only [Act.put, List.setIfInBounds_toArray, List.set_cons_zero, List.set_cons_succ]
  refine wpT_pureD (v := .bool p) (some 186) rfl rfl (by rfl) (fun w' => ?_) ?_
  · rw [HP.out]
    by_cases q1 : r1 = rd
    · subst q1
      by_cases q2 : r2 = rs1
      · subst q2
        by_cases q3 : r3 = rs2
        · subst q3
          by_cases q4 : im = imm
          · subst q4
            go_simp
          · have z1 : ((im : Int) == (imm : Int)) = false := natne _ _ q4
            go_simp
        · have z1 : ((r3 : Int) == (rs2 : Int)) = false := natne _ _ q3
          go_simp
      · have z1 : ((r2 : Int) == (rs1 : Int)) = false := natne _ _ q2
        go_simp
    · have z1 : ((r1 : Int) == (rd : Int)) = false := natne _ _ q1
      go_simp
  try simp only [Act.put, List.setIfInBounds_toArray, List.set_cons_zero, List.set_cons_succ]
  refine wpT_pureD (v := ?_) (some 2) rfl rfl (by rfl) (fun w' => ?_) ?_
  rotate_left
  · (go_simp; try with_reducible rfl)
  try simp only [Act.put, List.setIfInBounds_toArray, List.set_cons_zero, List.set_cons_succ]
  refine wpT_pureD (v := ?_) (some 3) rfl rfl (by rfl) (fun w' => ?_) ?_
  rotate_left
  · (go_simp; try with_reducible rfl)
  try simp only [Act.put, List.setIfInBounds_toArray, List.set_cons_zero, List.set_cons_succ]
  refine wpT_end ?_
  go_wp2
  go_ret2
  exact ⟨rfl, HCT.out.drew⟩
set_option maxRecDepth 100000 in
set_option maxHeartbeats 1600000 in
theorem renc_B (k rd rs1 rs2 imm : Nat) (h1 : 1 ≤ k) (h2 : k < 57) (hl : frmL k = 66) (hrd : rd < 32) (hrs1 : rs1 < 32) (hrs2 : rs2 < 32) (hi : imm < 4294967296) (w : World) :
    Calls Tryd.prog 13 #[.agg #[.int .i64 (k : Int), .int .i64 (rd : Int), .int .i64 (rs1 : Int), .int .i64 (rs2 : Int), .int .i64 (imm : Int)]] w fun e w' => e = .returned (.tuple #[.int .i64 ((encR 66 (wrdC k) rd rs1 rs2 imm : Nat) : Int), .bool (decide (decN (encR 66 (wrdC k) rd rs1 rs2 imm) = ⟨k, rd, rs1, rs2, imm⟩))]) ∧ Chg [] w w' := by
  obtain ⟨hw32, hfit, _⟩ := de_B k rd rs1 rs2 imm _ h1 h2 hl hrd hrs1 hrs2 hi rfl
  have HDK := Lib.hid (rdec_k k _ h1 h2 hw32 hfit)
  have hop := (dl_any _ k hw32 h1 h2 hfit).1
  obtain ⟨B, hB⟩ : ∃ B, B = w.heap.size := ⟨_, rfl⟩
  obtain ⟨V, hV⟩ : ∃ V, V = w.alloc (.cells #[.int .i64 (k : Int), .int .i64 (rd : Int), .int .i64 (rs1 : Int), .int .i64 (rs2 : Int), .int .i64 (imm : Int)] 29) := ⟨_, rfl⟩
  have hcV : Chg [] w V := by rw [hV]; exact (Chg.refl _ _).alloc _
  have rb : V.row? B = some #[.int .i64 (k : Int), .int .i64 (rd : Int), .int .i64 (rs1 : Int), .int .i64 (rs2 : Int), .int .i64 (imm : Int)] := by rw [hV]; exact row_alloc_at _ _ _ _ hB
  obtain ⟨L, hL⟩ : ∃ L, L = V.heap.size := ⟨_, rfl⟩
  have HLI := list_any V
  rw [← hL] at HLI
  have HLI := Lib.hid HLI
  have HCV := Lib.hid hcV
  have HRB := Lib.hid rb
  have HVV := Lib.hid hV
  have HBB := Lib.hid hB
  obtain ⟨cw, hcw⟩ : ∃ W, W = wrdC k := ⟨_, rfl⟩
  have hc32 := (letK k h2 h1).2.1
  rw [← hcw] at hc32 HDK hop ⊢
  have HCW := Lib.hid hcw
  have HK2 := Lib.hid h2
  have HL := Lib.hid hl
  have g1 : decide ((k : Int) < 1) = false := by simp; omega
  have g2 : decide (57 ≤ (k : Int)) = false := by simp; omega
  have g3 : decide ((rd : Int) < 0) = false := by simp
  have g4 : decide (31 < (rd : Int)) = false := by simp; omega
  have g5 : decide ((rs1 : Int) < 0) = false := by simp
  have g6 : decide (31 < (rs1 : Int)) = false := by simp; omega
  have g7 : decide ((rs2 : Int) < 0) = false := by simp
  have g8 : decide (31 < (rs2 : Int)) = false := by simp; omega
  have hkI : (k : Int) < 57 := by omega
  have n2 : bits .and .i64 (imm : Int) 4294967295 = (imm : Int) := by rw [and64m]; omega
  have l1 : rs1 * 32768 < 4294967296 := by omega
  have e1 : bits .or .i64 (cw : Int) ((rs1 : Int) * 32768) = ((cw ||| rs1 * 32768 : Nat) : Int) := by
    rw [show (rs1 : Int) * 32768 = ((rs1 * 32768 : Nat) : Int) by omega]; exact or64 _ _ hc32 l1
  have v1 : wrap64 ((rs1 : Int) * 32768) = (rs1 : Int) * 32768 := IntWalk.wrap64_in _ ⟨by omega, by omega⟩
  have hb1 := or_lt hc32 l1
  obtain ⟨d1, hd1⟩ : ∃ d, d = cw ||| rs1 * 32768 := ⟨_, rfl⟩
  rw [← hd1] at e1 hb1
  have l2 : rs2 * 1048576 < 4294967296 := by omega
  have e2 : bits .or .i64 (d1 : Int) ((rs2 : Int) * 1048576) = ((d1 ||| rs2 * 1048576 : Nat) : Int) := by
    rw [show (rs2 : Int) * 1048576 = ((rs2 * 1048576 : Nat) : Int) by omega]; exact or64 _ _ hb1 l2
  have v2 : wrap64 ((rs2 : Int) * 1048576) = (rs2 : Int) * 1048576 := IntWalk.wrap64_in _ ⟨by omega, by omega⟩
  have hb2 := or_lt hb1 l2
  obtain ⟨d2, hd2⟩ : ∃ d, d = d1 ||| rs2 * 1048576 := ⟨_, rfl⟩
  rw [← hd2] at e2 hb2
  obtain ⟨R, hR⟩ : ∃ R, R = setB d2 imm := ⟨_, rfl⟩
  have hres : encR 66 cw rd rs1 rs2 imm = R := by rw [hR, hd2, hd1]; rfl
  have SI : Hid (∀ w, Calls Tryd.prog 27 #[.string ⟨#[66]⟩, .int .i64 (d2 : Int), .int .i64 (imm : Int)] w fun e w' => e = .returned (.int .i64 (R : Int)) ∧ Chg [] w w') := Lib.hid fun w => by rw [hR]; exact rset_B d2 imm hb2 hi w
  rw [hres] at HDK hop ⊢
  have HII := Lib.hid hi
  obtain ⟨i, hi5⟩ : ∃ i, i = decN R := ⟨_, rfl⟩
  rw [← hi5] at HDK hop ⊢
  obtain ⟨io, r1, r2, r3, im⟩ := i
  obtain rfl : k = io := hop.symm
  obtain ⟨p, hp⟩ : ∃ p, p = decide ((⟨k, r1, r2, r3, im⟩ : I5) = ⟨k, rd, rs1, rs2, imm⟩) := ⟨_, rfl⟩
  rw [← hp]
  have HP := Lib.hid hp
  clear hi5 hp hres hcV rb hV hB hL hcw hl h2 h1 hw32 hfit hi hrd hrs1 hrs2 hd1 l1 hb1 hd2 l2 hb2 hR  hc32
  go_enter Tryd.func13, Tryd.ntmps13
  go_upto_region 1 with (fail)
  rw [← HBB.out, ← HVV.out]
  go_wp2_with fail
  refine HLI.out.mono ?_
  rintro e w1 ⟨rfl, hrow, hc1⟩
  have HC1 := Lib.hid (HCV.out.trans hc1)
  have hrb1 : w1.row? B = some #[.int .i64 (k : Int), .int .i64 (rd : Int), .int .i64 (rs1 : Int), .int .i64 (rs2 : Int), .int .i64 (imm : Int)] := by rw [hc1.row (row_lt HRB.out) (by simp)]; exact HRB.out
  have c0 : w1.cell? ⟨B, 0, none⟩ = some (.int .i64 (k : Int)) := by rw [row_cell hrb1]; rfl
  have c1 : w1.cell? ⟨B, 1, none⟩ = some (.int .i64 (rd : Int)) := by rw [row_cell hrb1]; rfl
  have c2 : w1.cell? ⟨B, 2, none⟩ = some (.int .i64 (rs1 : Int)) := by rw [row_cell hrb1]; rfl
  have c3 : w1.cell? ⟨B, 3, none⟩ = some (.int .i64 (rs2 : Int)) := by rw [row_cell hrb1]; rfl
  have c4 : w1.cell? ⟨B, 4, none⟩ = some (.int .i64 (imm : Int)) := by rw [row_cell hrb1]; rfl
  have cf : w1.cell? ⟨L, k * 2, none⟩ = some (.string ⟨#[66]⟩) := by rw [row_cell hrow, show (⟨#[66]⟩ : ByteArray) = strB (frmL k) by rw [HL.out]; rfl]; simpa using listA_frm k HK2.out
  have cg : w1.cell? ⟨L, k * 2 + 1, none⟩ = some (.int .i64 (cw : Int)) := by rw [row_cell hrow, HCW.out]; simpa using listA_word k HK2.out
  have HRB1 := Lib.hid hrb1
  clear hrow hc1 hrb1 HLI HRB HCV
  go_wp2_with fail
  refine (SI.out _).mono ?_
  rintro e w2 ⟨rfl, hc2⟩
  have hrb2 : w2.row? B = some #[.int .i64 (k : Int), .int .i64 (rd : Int), .int .i64 (rs1 : Int), .int .i64 (rs2 : Int), .int .i64 (imm : Int)] := by rw [hc2.row (row_lt HRB1.out) (by simp)]; exact HRB1.out
  have HRB2 := Lib.hid hrb2
  have HC2 := Lib.hid (HC1.out.trans hc2)
  clear hrb2 hc2 c0 c1 c2 c3 c4 cf cg
  go_wp2_with fail
  refine (HDK.out _).mono ?_
  rintro e w3 ⟨z, hz, rfl, hc3⟩
  have n1 : bits .and .i64 z 4294967295 = (im : Int) := by rw [and64m, hz]
  obtain ⟨C, hC⟩ : ∃ C, C = w3.heap.size := ⟨_, rfl⟩
  obtain ⟨Z, hZ⟩ : ∃ Z, Z = w3.alloc (.cells #[.int .i64 (k : Int), .int .i64 (r1 : Int), .int .i64 (r2 : Int), .int .i64 (r3 : Int), .int .i64 z] 29) := ⟨_, rfl⟩
  have hcZ := hc3.alloc (.cells #[.int .i64 (k : Int), .int .i64 (r1 : Int), .int .i64 (r2 : Int), .int .i64 (r3 : Int), .int .i64 z] 29)
  rw [← hZ] at hcZ
  have rC : Z.row? C = some #[.int .i64 (k : Int), .int .i64 (r1 : Int), .int .i64 (r2 : Int), .int .i64 (r3 : Int), .int .i64 z] := by rw [hZ]; exact row_alloc_at _ _ _ _ hC
  have rB : Z.row? B = some #[.int .i64 (k : Int), .int .i64 (rd : Int), .int .i64 (rs1 : Int), .int .i64 (rs2 : Int), .int .i64 (imm : Int)] := by rw [hcZ.row (row_lt HRB2.out) (by simp)]; exact HRB2.out
  have hBC : B ≠ C := by have := row_lt HRB2.out; have := hc3.size; omega
  have hCw : w.heap.size ≤ C := by have := HC2.out.size; have := hc3.size; omega
  have hBw : w.heap.size ≤ B := by have := HBB.out; omega
  obtain ⟨U, hU⟩ : ∃ U, U = Z.setCell ⟨C, 4, none⟩ (.int .i64 (im : Int)) := ⟨_, rfl⟩
  obtain ⟨T, hT⟩ : ∃ T, T = U.setCell ⟨B, 4, none⟩ (.int .i64 (imm : Int)) := ⟨_, rfl⟩
  have uC : U.row? C = some #[.int .i64 (k : Int), .int .i64 (r1 : Int), .int .i64 (r2 : Int), .int .i64 (r3 : Int), .int .i64 (im : Int)] := by rw [hU, row_setCell_same, rC]; rfl
  have uB : U.row? B = some #[.int .i64 (k : Int), .int .i64 (rd : Int), .int .i64 (rs1 : Int), .int .i64 (rs2 : Int), .int .i64 (imm : Int)] := by rw [hU, row_setCell_other _ _ _ _ (by simpa using hBC)]; exact rB
  have tC : T.row? C = some #[.int .i64 (k : Int), .int .i64 (r1 : Int), .int .i64 (r2 : Int), .int .i64 (r3 : Int), .int .i64 (im : Int)] := by rw [hT, row_setCell_other _ _ _ _ (by simpa using Ne.symm hBC)]; exact uC
  have tB : T.row? B = some #[.int .i64 (k : Int), .int .i64 (rd : Int), .int .i64 (rs1 : Int), .int .i64 (rs2 : Int), .int .i64 (imm : Int)] := by rw [hT, row_setCell_same, uB]; rfl
  have HCT : Hid (Chg [] w T) := Lib.hid (by rw [hT, hU]; exact ((HC2.out.trans hcZ).setCell (Or.inr hCw) _).setCell (Or.inr hBw) _)
  have z4 : Z.cell? ⟨C, 4, none⟩ = some (.int .i64 z) := by rw [row_cell rC]; rfl
  have b4 : U.cell? ⟨B, 4, none⟩ = some (.int .i64 (imm : Int)) := by rw [row_cell uB]; rfl
  have fC := row_free rC 4
  have fB := row_free uB 4
  have TB := Lib.hid tB
  have TC := Lib.hid tC
  have HZ := Lib.hid hZ
  have HU := Lib.hid hU
  have HT := Lib.hid hT
  have HCC := Lib.hid hC
  clear hz hc3 hZ hcZ rC rB hBC hCw hBw hU hT uC uB tC tB hC
  go_upto_region 19 with (refine wpList_store_new a29 _ _ rfl rfl rfl rfl rfl rfl rfl rfl ?_)
  rw [← HCC.out, ← HZ.out]
  go_upto_region 20 with (fail)
  rw [← HU.out]
  go_upto_region 21 with (fail)
  rw [← HT.out]
  clear z4 b4 fC fB
  refine wp_region_C (fun w' => w'.row? C = some #[.int .i64 (k : Int), .int .i64 (r1 : Int), .int .i64 (r2 : Int), .int .i64 (r3 : Int), .int .i64 (im : Int)] ∧ w'.row? B = some #[.int .i64 (k : Int), .int .i64 (rd : Int), .int .i64 (rs1 : Int), .int .i64 (rs2 : Int), .int .i64 (imm : Int)]) [(0, 0), (1, 1), (2, 1), (3, 0), (4, 0), (5, 0)] rfl (by kernel_rfl) ?hSB ?hTB
  case hSB => exact ⟨TC.out, TB.out⟩
  refine wpT_pureD (v := ?_) (some 183) rfl rfl (by rfl) (fun w' => ?_) ?_
  rotate_left
  · (go_simp; try with_reducible rfl)
  try simp only [Act.put, List.setIfInBounds_toArray, List.set_cons_zero, List.set_cons_succ]
  refine wpT_load_part a29 [.int .i64 (k : Int), .int .i64 (r1 : Int), .int .i64 (r2 : Int), .int .i64 (r3 : Int), .int .i64 (im : Int)] (some 184) _ rfl rfl rfl (by rfl) rfl rfl (fun w' hw j u hu => by rw [Nat.zero_add, row_cell hw.1]; simpa using hu) ?_
  try simp only [Act.put, List.setIfInBounds_toArray, List.set_cons_zero, List.set_cons_succ]
  refine wpT_load_part a29 [.int .i64 (k : Int), .int .i64 (rd : Int), .int .i64 (rs1 : Int), .int .i64 (rs2 : Int), .int .i64 (imm : Int)] (some 185) _ rfl rfl rfl (by rfl) rfl rfl (fun w' hw j u hu => by rw [Nat.zero_add, row_cell hw.2]; simpa using hu) ?_
  try simp only [Act.put, List.setIfInBounds_toArray, List.set_cons_zero, List.set_cons_succ]
  refine wpT_pureD (v := .bool p) (some 186) rfl rfl (by rfl) (fun w' => ?_) ?_
  · rw [HP.out]
    by_cases q1 : r1 = rd
    · subst q1
      by_cases q2 : r2 = rs1
      · subst q2
        by_cases q3 : r3 = rs2
        · subst q3
          by_cases q4 : im = imm
          · subst q4
            go_simp
          · have z1 : ((im : Int) == (imm : Int)) = false := natne _ _ q4
            go_simp
        · have z1 : ((r3 : Int) == (rs2 : Int)) = false := natne _ _ q3
          go_simp
      · have z1 : ((r2 : Int) == (rs1 : Int)) = false := natne _ _ q2
        go_simp
    · have z1 : ((r1 : Int) == (rd : Int)) = false := natne _ _ q1
      go_simp
  try simp only [Act.put, List.setIfInBounds_toArray, List.set_cons_zero, List.set_cons_succ]
  refine wpT_pureD (v := ?_) (some 2) rfl rfl (by rfl) (fun w' => ?_) ?_
  rotate_left
  · (go_simp; try with_reducible rfl)
  try simp only [Act.put, List.setIfInBounds_toArray, List.set_cons_zero, List.set_cons_succ]
  refine wpT_pureD (v := ?_) (some 3) rfl rfl (by rfl) (fun w' => ?_) ?_
  rotate_left
  · (go_simp; try with_reducible rfl)
  try simp only [Act.put, List.setIfInBounds_toArray, List.set_cons_zero, List.set_cons_succ]
  refine wpT_end ?_
  go_wp2
  go_ret2
  exact ⟨rfl, HCT.out.drew⟩
set_option maxRecDepth 100000 in
set_option maxHeartbeats 1600000 in
theorem renc_S (k rd rs1 rs2 imm : Nat) (h1 : 1 ≤ k) (h2 : k < 57) (hl : frmL k = 83) (hrd : rd < 32) (hrs1 : rs1 < 32) (hrs2 : rs2 < 32) (hi : imm < 4294967296) (w : World) :
    Calls Tryd.prog 13 #[.agg #[.int .i64 (k : Int), .int .i64 (rd : Int), .int .i64 (rs1 : Int), .int .i64 (rs2 : Int), .int .i64 (imm : Int)]] w fun e w' => e = .returned (.tuple #[.int .i64 ((encR 83 (wrdC k) rd rs1 rs2 imm : Nat) : Int), .bool (decide (decN (encR 83 (wrdC k) rd rs1 rs2 imm) = ⟨k, rd, rs1, rs2, imm⟩))]) ∧ Chg [] w w' := by
  obtain ⟨hw32, hfit, _⟩ := de_S k rd rs1 rs2 imm _ h1 h2 hl hrd hrs1 hrs2 hi rfl
  have HDK := Lib.hid (rdec_k k _ h1 h2 hw32 hfit)
  have hop := (dl_any _ k hw32 h1 h2 hfit).1
  obtain ⟨B, hB⟩ : ∃ B, B = w.heap.size := ⟨_, rfl⟩
  obtain ⟨V, hV⟩ : ∃ V, V = w.alloc (.cells #[.int .i64 (k : Int), .int .i64 (rd : Int), .int .i64 (rs1 : Int), .int .i64 (rs2 : Int), .int .i64 (imm : Int)] 29) := ⟨_, rfl⟩
  have hcV : Chg [] w V := by rw [hV]; exact (Chg.refl _ _).alloc _
  have rb : V.row? B = some #[.int .i64 (k : Int), .int .i64 (rd : Int), .int .i64 (rs1 : Int), .int .i64 (rs2 : Int), .int .i64 (imm : Int)] := by rw [hV]; exact row_alloc_at _ _ _ _ hB
  obtain ⟨L, hL⟩ : ∃ L, L = V.heap.size := ⟨_, rfl⟩
  have HLI := list_any V
  rw [← hL] at HLI
  have HLI := Lib.hid HLI
  have HCV := Lib.hid hcV
  have HRB := Lib.hid rb
  have HVV := Lib.hid hV
  have HBB := Lib.hid hB
  obtain ⟨cw, hcw⟩ : ∃ W, W = wrdC k := ⟨_, rfl⟩
  have hc32 := (letK k h2 h1).2.1
  rw [← hcw] at hc32 HDK hop ⊢
  have HCW := Lib.hid hcw
  have HK2 := Lib.hid h2
  have HL := Lib.hid hl
  have g1 : decide ((k : Int) < 1) = false := by simp; omega
  have g2 : decide (57 ≤ (k : Int)) = false := by simp; omega
  have g3 : decide ((rd : Int) < 0) = false := by simp
  have g4 : decide (31 < (rd : Int)) = false := by simp; omega
  have g5 : decide ((rs1 : Int) < 0) = false := by simp
  have g6 : decide (31 < (rs1 : Int)) = false := by simp; omega
  have g7 : decide ((rs2 : Int) < 0) = false := by simp
  have g8 : decide (31 < (rs2 : Int)) = false := by simp; omega
  have hkI : (k : Int) < 57 := by omega
  have n2 : bits .and .i64 (imm : Int) 4294967295 = (imm : Int) := by rw [and64m]; omega
  have l1 : rs1 * 32768 < 4294967296 := by omega
  have e1 : bits .or .i64 (cw : Int) ((rs1 : Int) * 32768) = ((cw ||| rs1 * 32768 : Nat) : Int) := by
    rw [show (rs1 : Int) * 32768 = ((rs1 * 32768 : Nat) : Int) by omega]; exact or64 _ _ hc32 l1
  have v1 : wrap64 ((rs1 : Int) * 32768) = (rs1 : Int) * 32768 := IntWalk.wrap64_in _ ⟨by omega, by omega⟩
  have hb1 := or_lt hc32 l1
  obtain ⟨d1, hd1⟩ : ∃ d, d = cw ||| rs1 * 32768 := ⟨_, rfl⟩
  rw [← hd1] at e1 hb1
  have l2 : rs2 * 1048576 < 4294967296 := by omega
  have e2 : bits .or .i64 (d1 : Int) ((rs2 : Int) * 1048576) = ((d1 ||| rs2 * 1048576 : Nat) : Int) := by
    rw [show (rs2 : Int) * 1048576 = ((rs2 * 1048576 : Nat) : Int) by omega]; exact or64 _ _ hb1 l2
  have v2 : wrap64 ((rs2 : Int) * 1048576) = (rs2 : Int) * 1048576 := IntWalk.wrap64_in _ ⟨by omega, by omega⟩
  have hb2 := or_lt hb1 l2
  obtain ⟨d2, hd2⟩ : ∃ d, d = d1 ||| rs2 * 1048576 := ⟨_, rfl⟩
  rw [← hd2] at e2 hb2
  obtain ⟨R, hR⟩ : ∃ R, R = setS d2 imm := ⟨_, rfl⟩
  have hres : encR 83 cw rd rs1 rs2 imm = R := by rw [hR, hd2, hd1]; rfl
  have SI : Hid (∀ w, Calls Tryd.prog 27 #[.string ⟨#[83]⟩, .int .i64 (d2 : Int), .int .i64 (imm : Int)] w fun e w' => e = .returned (.int .i64 (R : Int)) ∧ Chg [] w w') := Lib.hid fun w => by rw [hR]; exact rset_S d2 imm hb2 hi w
  rw [hres] at HDK hop ⊢
  have HII := Lib.hid hi
  obtain ⟨i, hi5⟩ : ∃ i, i = decN R := ⟨_, rfl⟩
  rw [← hi5] at HDK hop ⊢
  obtain ⟨io, r1, r2, r3, im⟩ := i
  obtain rfl : k = io := hop.symm
  obtain ⟨p, hp⟩ : ∃ p, p = decide ((⟨k, r1, r2, r3, im⟩ : I5) = ⟨k, rd, rs1, rs2, imm⟩) := ⟨_, rfl⟩
  rw [← hp]
  have HP := Lib.hid hp
  clear hi5 hp hres hcV rb hV hB hL hcw hl h2 h1 hw32 hfit hi hrd hrs1 hrs2 hd1 l1 hb1 hd2 l2 hb2 hR  hc32
  go_enter Tryd.func13, Tryd.ntmps13
  go_upto_region 1 with (fail)
  rw [← HBB.out, ← HVV.out]
  go_wp2_with fail
  refine HLI.out.mono ?_
  rintro e w1 ⟨rfl, hrow, hc1⟩
  have HC1 := Lib.hid (HCV.out.trans hc1)
  have hrb1 : w1.row? B = some #[.int .i64 (k : Int), .int .i64 (rd : Int), .int .i64 (rs1 : Int), .int .i64 (rs2 : Int), .int .i64 (imm : Int)] := by rw [hc1.row (row_lt HRB.out) (by simp)]; exact HRB.out
  have c0 : w1.cell? ⟨B, 0, none⟩ = some (.int .i64 (k : Int)) := by rw [row_cell hrb1]; rfl
  have c1 : w1.cell? ⟨B, 1, none⟩ = some (.int .i64 (rd : Int)) := by rw [row_cell hrb1]; rfl
  have c2 : w1.cell? ⟨B, 2, none⟩ = some (.int .i64 (rs1 : Int)) := by rw [row_cell hrb1]; rfl
  have c3 : w1.cell? ⟨B, 3, none⟩ = some (.int .i64 (rs2 : Int)) := by rw [row_cell hrb1]; rfl
  have c4 : w1.cell? ⟨B, 4, none⟩ = some (.int .i64 (imm : Int)) := by rw [row_cell hrb1]; rfl
  have cf : w1.cell? ⟨L, k * 2, none⟩ = some (.string ⟨#[83]⟩) := by rw [row_cell hrow, show (⟨#[83]⟩ : ByteArray) = strB (frmL k) by rw [HL.out]; rfl]; simpa using listA_frm k HK2.out
  have cg : w1.cell? ⟨L, k * 2 + 1, none⟩ = some (.int .i64 (cw : Int)) := by rw [row_cell hrow, HCW.out]; simpa using listA_word k HK2.out
  have HRB1 := Lib.hid hrb1
  clear hrow hc1 hrb1 HLI HRB HCV
  go_wp2_with fail
  refine (SI.out _).mono ?_
  rintro e w2 ⟨rfl, hc2⟩
  have hrb2 : w2.row? B = some #[.int .i64 (k : Int), .int .i64 (rd : Int), .int .i64 (rs1 : Int), .int .i64 (rs2 : Int), .int .i64 (imm : Int)] := by rw [hc2.row (row_lt HRB1.out) (by simp)]; exact HRB1.out
  have HRB2 := Lib.hid hrb2
  have HC2 := Lib.hid (HC1.out.trans hc2)
  clear hrb2 hc2 c0 c1 c2 c3 c4 cf cg
  go_wp2_with fail
  refine (HDK.out _).mono ?_
  rintro e w3 ⟨z, hz, rfl, hc3⟩
  have n1 : bits .and .i64 z 4294967295 = (im : Int) := by rw [and64m, hz]
  obtain ⟨C, hC⟩ : ∃ C, C = w3.heap.size := ⟨_, rfl⟩
  obtain ⟨Z, hZ⟩ : ∃ Z, Z = w3.alloc (.cells #[.int .i64 (k : Int), .int .i64 (r1 : Int), .int .i64 (r2 : Int), .int .i64 (r3 : Int), .int .i64 z] 29) := ⟨_, rfl⟩
  have hcZ := hc3.alloc (.cells #[.int .i64 (k : Int), .int .i64 (r1 : Int), .int .i64 (r2 : Int), .int .i64 (r3 : Int), .int .i64 z] 29)
  rw [← hZ] at hcZ
  have rC : Z.row? C = some #[.int .i64 (k : Int), .int .i64 (r1 : Int), .int .i64 (r2 : Int), .int .i64 (r3 : Int), .int .i64 z] := by rw [hZ]; exact row_alloc_at _ _ _ _ hC
  have rB : Z.row? B = some #[.int .i64 (k : Int), .int .i64 (rd : Int), .int .i64 (rs1 : Int), .int .i64 (rs2 : Int), .int .i64 (imm : Int)] := by rw [hcZ.row (row_lt HRB2.out) (by simp)]; exact HRB2.out
  have hBC : B ≠ C := by have := row_lt HRB2.out; have := hc3.size; omega
  have hCw : w.heap.size ≤ C := by have := HC2.out.size; have := hc3.size; omega
  have hBw : w.heap.size ≤ B := by have := HBB.out; omega
  obtain ⟨U, hU⟩ : ∃ U, U = Z.setCell ⟨C, 4, none⟩ (.int .i64 (im : Int)) := ⟨_, rfl⟩
  obtain ⟨T, hT⟩ : ∃ T, T = U.setCell ⟨B, 4, none⟩ (.int .i64 (imm : Int)) := ⟨_, rfl⟩
  have uC : U.row? C = some #[.int .i64 (k : Int), .int .i64 (r1 : Int), .int .i64 (r2 : Int), .int .i64 (r3 : Int), .int .i64 (im : Int)] := by rw [hU, row_setCell_same, rC]; rfl
  have uB : U.row? B = some #[.int .i64 (k : Int), .int .i64 (rd : Int), .int .i64 (rs1 : Int), .int .i64 (rs2 : Int), .int .i64 (imm : Int)] := by rw [hU, row_setCell_other _ _ _ _ (by simpa using hBC)]; exact rB
  have tC : T.row? C = some #[.int .i64 (k : Int), .int .i64 (r1 : Int), .int .i64 (r2 : Int), .int .i64 (r3 : Int), .int .i64 (im : Int)] := by rw [hT, row_setCell_other _ _ _ _ (by simpa using Ne.symm hBC)]; exact uC
  have tB : T.row? B = some #[.int .i64 (k : Int), .int .i64 (rd : Int), .int .i64 (rs1 : Int), .int .i64 (rs2 : Int), .int .i64 (imm : Int)] := by rw [hT, row_setCell_same, uB]; rfl
  have HCT : Hid (Chg [] w T) := Lib.hid (by rw [hT, hU]; exact ((HC2.out.trans hcZ).setCell (Or.inr hCw) _).setCell (Or.inr hBw) _)
  have z4 : Z.cell? ⟨C, 4, none⟩ = some (.int .i64 z) := by rw [row_cell rC]; rfl
  have b4 : U.cell? ⟨B, 4, none⟩ = some (.int .i64 (imm : Int)) := by rw [row_cell uB]; rfl
  have fC := row_free rC 4
  have fB := row_free uB 4
  have TB := Lib.hid tB
  have TC := Lib.hid tC
  have HZ := Lib.hid hZ
  have HU := Lib.hid hU
  have HT := Lib.hid hT
  have HCC := Lib.hid hC
  clear hz hc3 hZ hcZ rC rB hBC hCw hBw hU hT uC uB tC tB hC
  go_upto_region 19 with (refine wpList_store_new a29 _ _ rfl rfl rfl rfl rfl rfl rfl rfl ?_)
  rw [← HCC.out, ← HZ.out]
  go_upto_region 20 with (fail)
  rw [← HU.out]
  go_upto_region 21 with (fail)
  rw [← HT.out]
  clear z4 b4 fC fB
  refine wp_region_C (fun w' => w'.row? C = some #[.int .i64 (k : Int), .int .i64 (r1 : Int), .int .i64 (r2 : Int), .int .i64 (r3 : Int), .int .i64 (im : Int)] ∧ w'.row? B = some #[.int .i64 (k : Int), .int .i64 (rd : Int), .int .i64 (rs1 : Int), .int .i64 (rs2 : Int), .int .i64 (imm : Int)]) [(0, 0), (1, 1), (2, 1), (3, 0), (4, 0), (5, 0)] rfl (by kernel_rfl) ?hSS ?hTS
  case hSS => exact ⟨TC.out, TB.out⟩
  refine wpT_pureD (v := ?_) (some 183) rfl rfl (by rfl) (fun w' => ?_) ?_
  rotate_left
  · (go_simp; try with_reducible rfl)
  try simp only [Act.put, List.setIfInBounds_toArray, List.set_cons_zero, List.set_cons_succ]
  refine wpT_load_part a29 [.int .i64 (k : Int), .int .i64 (r1 : Int), .int .i64 (r2 : Int), .int .i64 (r3 : Int), .int .i64 (im : Int)] (some 184) _ rfl rfl rfl (by rfl) rfl rfl (fun w' hw j u hu => by rw [Nat.zero_add, row_cell hw.1]; simpa using hu) ?_
  try simp only [Act.put, List.setIfInBounds_toArray, List.set_cons_zero, List.set_cons_succ]
  refine wpT_load_part a29 [.int .i64 (k : Int), .int .i64 (rd : Int), .int .i64 (rs1 : Int), .int .i64 (rs2 : Int), .int .i64 (imm : Int)] (some 185) _ rfl rfl rfl (by rfl) rfl rfl (fun w' hw j u hu => by rw [Nat.zero_add, row_cell hw.2]; simpa using hu) ?_
  try simp only [Act.put, List.setIfInBounds_toArray, List.set_cons_zero, List.set_cons_succ]
  refine wpT_pureD (v := .bool p) (some 186) rfl rfl (by rfl) (fun w' => ?_) ?_
  · rw [HP.out]
    by_cases q1 : r1 = rd
    · subst q1
      by_cases q2 : r2 = rs1
      · subst q2
        by_cases q3 : r3 = rs2
        · subst q3
          by_cases q4 : im = imm
          · subst q4
            go_simp
          · have z1 : ((im : Int) == (imm : Int)) = false := natne _ _ q4
            go_simp
        · have z1 : ((r3 : Int) == (rs2 : Int)) = false := natne _ _ q3
          go_simp
      · have z1 : ((r2 : Int) == (rs1 : Int)) = false := natne _ _ q2
        go_simp
    · have z1 : ((r1 : Int) == (rd : Int)) = false := natne _ _ q1
      go_simp
  try simp only [Act.put, List.setIfInBounds_toArray, List.set_cons_zero, List.set_cons_succ]
  refine wpT_pureD (v := ?_) (some 2) rfl rfl (by rfl) (fun w' => ?_) ?_
  rotate_left
  · (go_simp; try with_reducible rfl)
  try simp only [Act.put, List.setIfInBounds_toArray, List.set_cons_zero, List.set_cons_succ]
  refine wpT_pureD (v := ?_) (some 3) rfl rfl (by rfl) (fun w' => ?_) ?_
  rotate_left
  · (go_simp; try with_reducible rfl)
  try simp only [Act.put, List.setIfInBounds_toArray, List.set_cons_zero, List.set_cons_succ]
  refine wpT_end ?_
  go_wp2
  go_ret2
  exact ⟨rfl, HCT.out.drew⟩
set_option maxRecDepth 100000 in
set_option maxHeartbeats 1600000 in
theorem renc_R (k rd rs1 rs2 imm : Nat) (h1 : 1 ≤ k) (h2 : k < 57) (hl : frmL k = 82) (hrd : rd < 32) (hrs1 : rs1 < 32) (hrs2 : rs2 < 32) (hi : imm < 4294967296) (w : World) :
    Calls Tryd.prog 13 #[.agg #[.int .i64 (k : Int), .int .i64 (rd : Int), .int .i64 (rs1 : Int), .int .i64 (rs2 : Int), .int .i64 (imm : Int)]] w fun e w' => e = .returned (.tuple #[.int .i64 ((encR 82 (wrdC k) rd rs1 rs2 imm : Nat) : Int), .bool (decide (decN (encR 82 (wrdC k) rd rs1 rs2 imm) = ⟨k, rd, rs1, rs2, imm⟩))]) ∧ Chg [] w w' := by
  obtain ⟨hw32, hfit, _⟩ := de_R k rd rs1 rs2 imm _ h1 h2 hl hrd hrs1 hrs2 hi rfl
  have HDK := Lib.hid (rdec_k k _ h1 h2 hw32 hfit)
  have hop := (dl_any _ k hw32 h1 h2 hfit).1
  obtain ⟨B, hB⟩ : ∃ B, B = w.heap.size := ⟨_, rfl⟩
  obtain ⟨V, hV⟩ : ∃ V, V = w.alloc (.cells #[.int .i64 (k : Int), .int .i64 (rd : Int), .int .i64 (rs1 : Int), .int .i64 (rs2 : Int), .int .i64 (imm : Int)] 29) := ⟨_, rfl⟩
  have hcV : Chg [] w V := by rw [hV]; exact (Chg.refl _ _).alloc _
  have rb : V.row? B = some #[.int .i64 (k : Int), .int .i64 (rd : Int), .int .i64 (rs1 : Int), .int .i64 (rs2 : Int), .int .i64 (imm : Int)] := by rw [hV]; exact row_alloc_at _ _ _ _ hB
  obtain ⟨L, hL⟩ : ∃ L, L = V.heap.size := ⟨_, rfl⟩
  have HLI := list_any V
  rw [← hL] at HLI
  have HLI := Lib.hid HLI
  have HCV := Lib.hid hcV
  have HRB := Lib.hid rb
  have HVV := Lib.hid hV
  have HBB := Lib.hid hB
  obtain ⟨cw, hcw⟩ : ∃ W, W = wrdC k := ⟨_, rfl⟩
  have hc32 := (letK k h2 h1).2.1
  rw [← hcw] at hc32 HDK hop ⊢
  have HCW := Lib.hid hcw
  have HK2 := Lib.hid h2
  have HL := Lib.hid hl
  have g1 : decide ((k : Int) < 1) = false := by simp; omega
  have g2 : decide (57 ≤ (k : Int)) = false := by simp; omega
  have g3 : decide ((rd : Int) < 0) = false := by simp
  have g4 : decide (31 < (rd : Int)) = false := by simp; omega
  have g5 : decide ((rs1 : Int) < 0) = false := by simp
  have g6 : decide (31 < (rs1 : Int)) = false := by simp; omega
  have g7 : decide ((rs2 : Int) < 0) = false := by simp
  have g8 : decide (31 < (rs2 : Int)) = false := by simp; omega
  have hkI : (k : Int) < 57 := by omega
  have n2 : bits .and .i64 (imm : Int) 4294967295 = (imm : Int) := by rw [and64m]; omega
  have l1 : rd * 128 < 4294967296 := by omega
  have e1 : bits .or .i64 (cw : Int) ((rd : Int) * 128) = ((cw ||| rd * 128 : Nat) : Int) := by
    rw [show (rd : Int) * 128 = ((rd * 128 : Nat) : Int) by omega]; exact or64 _ _ hc32 l1
  have v1 : wrap64 ((rd : Int) * 128) = (rd : Int) * 128 := IntWalk.wrap64_in _ ⟨by omega, by omega⟩
  have hb1 := or_lt hc32 l1
  obtain ⟨d1, hd1⟩ : ∃ d, d = cw ||| rd * 128 := ⟨_, rfl⟩
  rw [← hd1] at e1 hb1
  have l2 : rs1 * 32768 < 4294967296 := by omega
  have e2 : bits .or .i64 (d1 : Int) ((rs1 : Int) * 32768) = ((d1 ||| rs1 * 32768 : Nat) : Int) := by
    rw [show (rs1 : Int) * 32768 = ((rs1 * 32768 : Nat) : Int) by omega]; exact or64 _ _ hb1 l2
  have v2 : wrap64 ((rs1 : Int) * 32768) = (rs1 : Int) * 32768 := IntWalk.wrap64_in _ ⟨by omega, by omega⟩
  have hb2 := or_lt hb1 l2
  obtain ⟨d2, hd2⟩ : ∃ d, d = d1 ||| rs1 * 32768 := ⟨_, rfl⟩
  rw [← hd2] at e2 hb2
  have l3 : rs2 * 1048576 < 4294967296 := by omega
  have e3 : bits .or .i64 (d2 : Int) ((rs2 : Int) * 1048576) = ((d2 ||| rs2 * 1048576 : Nat) : Int) := by
    rw [show (rs2 : Int) * 1048576 = ((rs2 * 1048576 : Nat) : Int) by omega]; exact or64 _ _ hb2 l3
  have v3 : wrap64 ((rs2 : Int) * 1048576) = (rs2 : Int) * 1048576 := IntWalk.wrap64_in _ ⟨by omega, by omega⟩
  have hb3 := or_lt hb2 l3
  obtain ⟨d3, hd3⟩ : ∃ d, d = d2 ||| rs2 * 1048576 := ⟨_, rfl⟩
  rw [← hd3] at e3 hb3
  obtain ⟨R, hR⟩ : ∃ R, R = d3 := ⟨_, rfl⟩
  have hres : encR 82 cw rd rs1 rs2 imm = R := by rw [hR, hd3, hd2, hd1]; rfl
  rw [hres] at HDK hop ⊢
  rw [← hR] at e3
  have HII := Lib.hid hi
  obtain ⟨i, hi5⟩ : ∃ i, i = decN R := ⟨_, rfl⟩
  rw [← hi5] at HDK hop ⊢
  obtain ⟨io, r1, r2, r3, im⟩ := i
  obtain rfl : k = io := hop.symm
  obtain ⟨p, hp⟩ : ∃ p, p = decide ((⟨k, r1, r2, r3, im⟩ : I5) = ⟨k, rd, rs1, rs2, imm⟩) := ⟨_, rfl⟩
  rw [← hp]
  have HP := Lib.hid hp
  clear hi5 hp hres hcV rb hV hB hL hcw hl h2 h1 hw32 hfit hi hrd hrs1 hrs2 hd1 l1 hb1 hd2 l2 hb2 hd3 l3 hb3 hR  hc32
  go_enter Tryd.func13, Tryd.ntmps13
  go_upto_region 1 with (fail)
  rw [← HBB.out, ← HVV.out]
  go_wp2_with fail
  refine HLI.out.mono ?_
  rintro e w1 ⟨rfl, hrow, hc1⟩
  have HC1 := Lib.hid (HCV.out.trans hc1)
  have hrb1 : w1.row? B = some #[.int .i64 (k : Int), .int .i64 (rd : Int), .int .i64 (rs1 : Int), .int .i64 (rs2 : Int), .int .i64 (imm : Int)] := by rw [hc1.row (row_lt HRB.out) (by simp)]; exact HRB.out
  have c0 : w1.cell? ⟨B, 0, none⟩ = some (.int .i64 (k : Int)) := by rw [row_cell hrb1]; rfl
  have c1 : w1.cell? ⟨B, 1, none⟩ = some (.int .i64 (rd : Int)) := by rw [row_cell hrb1]; rfl
  have c2 : w1.cell? ⟨B, 2, none⟩ = some (.int .i64 (rs1 : Int)) := by rw [row_cell hrb1]; rfl
  have c3 : w1.cell? ⟨B, 3, none⟩ = some (.int .i64 (rs2 : Int)) := by rw [row_cell hrb1]; rfl
  have c4 : w1.cell? ⟨B, 4, none⟩ = some (.int .i64 (imm : Int)) := by rw [row_cell hrb1]; rfl
  have cf : w1.cell? ⟨L, k * 2, none⟩ = some (.string ⟨#[82]⟩) := by rw [row_cell hrow, show (⟨#[82]⟩ : ByteArray) = strB (frmL k) by rw [HL.out]; rfl]; simpa using listA_frm k HK2.out
  have cg : w1.cell? ⟨L, k * 2 + 1, none⟩ = some (.int .i64 (cw : Int)) := by rw [row_cell hrow, HCW.out]; simpa using listA_word k HK2.out
  have HRB1 := Lib.hid hrb1
  clear hrow hc1 hrb1 HLI HRB HCV
  have HRB2 := HRB1
  have HC2 := HC1
  go_wp2_with fail
  refine (HDK.out _).mono ?_
  rintro e w3 ⟨z, hz, rfl, hc3⟩
  have n1 : bits .and .i64 z 4294967295 = (im : Int) := by rw [and64m, hz]
  obtain ⟨C, hC⟩ : ∃ C, C = w3.heap.size := ⟨_, rfl⟩
  obtain ⟨Z, hZ⟩ : ∃ Z, Z = w3.alloc (.cells #[.int .i64 (k : Int), .int .i64 (r1 : Int), .int .i64 (r2 : Int), .int .i64 (r3 : Int), .int .i64 z] 29) := ⟨_, rfl⟩
  have hcZ := hc3.alloc (.cells #[.int .i64 (k : Int), .int .i64 (r1 : Int), .int .i64 (r2 : Int), .int .i64 (r3 : Int), .int .i64 z] 29)
  rw [← hZ] at hcZ
  have rC : Z.row? C = some #[.int .i64 (k : Int), .int .i64 (r1 : Int), .int .i64 (r2 : Int), .int .i64 (r3 : Int), .int .i64 z] := by rw [hZ]; exact row_alloc_at _ _ _ _ hC
  have rB : Z.row? B = some #[.int .i64 (k : Int), .int .i64 (rd : Int), .int .i64 (rs1 : Int), .int .i64 (rs2 : Int), .int .i64 (imm : Int)] := by rw [hcZ.row (row_lt HRB2.out) (by simp)]; exact HRB2.out
  have hBC : B ≠ C := by have := row_lt HRB2.out; have := hc3.size; omega
  have hCw : w.heap.size ≤ C := by have := HC2.out.size; have := hc3.size; omega
  have hBw : w.heap.size ≤ B := by have := HBB.out; omega
  obtain ⟨U, hU⟩ : ∃ U, U = Z.setCell ⟨C, 4, none⟩ (.int .i64 (im : Int)) := ⟨_, rfl⟩
  obtain ⟨T, hT⟩ : ∃ T, T = U.setCell ⟨B, 4, none⟩ (.int .i64 (imm : Int)) := ⟨_, rfl⟩
  have uC : U.row? C = some #[.int .i64 (k : Int), .int .i64 (r1 : Int), .int .i64 (r2 : Int), .int .i64 (r3 : Int), .int .i64 (im : Int)] := by rw [hU, row_setCell_same, rC]; rfl
  have uB : U.row? B = some #[.int .i64 (k : Int), .int .i64 (rd : Int), .int .i64 (rs1 : Int), .int .i64 (rs2 : Int), .int .i64 (imm : Int)] := by rw [hU, row_setCell_other _ _ _ _ (by simpa using hBC)]; exact rB
  have tC : T.row? C = some #[.int .i64 (k : Int), .int .i64 (r1 : Int), .int .i64 (r2 : Int), .int .i64 (r3 : Int), .int .i64 (im : Int)] := by rw [hT, row_setCell_other _ _ _ _ (by simpa using Ne.symm hBC)]; exact uC
  have tB : T.row? B = some #[.int .i64 (k : Int), .int .i64 (rd : Int), .int .i64 (rs1 : Int), .int .i64 (rs2 : Int), .int .i64 (imm : Int)] := by rw [hT, row_setCell_same, uB]; rfl
  have HCT : Hid (Chg [] w T) := Lib.hid (by rw [hT, hU]; exact ((HC2.out.trans hcZ).setCell (Or.inr hCw) _).setCell (Or.inr hBw) _)
  have z4 : Z.cell? ⟨C, 4, none⟩ = some (.int .i64 z) := by rw [row_cell rC]; rfl
  have b4 : U.cell? ⟨B, 4, none⟩ = some (.int .i64 (imm : Int)) := by rw [row_cell uB]; rfl
  have fC := row_free rC 4
  have fB := row_free uB 4
  have TB := Lib.hid tB
  have TC := Lib.hid tC
  have HZ := Lib.hid hZ
  have HU := Lib.hid hU
  have HT := Lib.hid hT
  have HCC := Lib.hid hC
  clear hz hc3 hZ hcZ rC rB hBC hCw hBw hU hT uC uB tC tB hC
  go_upto_region 19 with (refine wpList_store_new a29 _ _ rfl rfl rfl rfl rfl rfl rfl rfl ?_)
  rw [← HCC.out, ← HZ.out]
  go_upto_region 20 with (fail)
  rw [← HU.out]
  go_upto_region 21 with (fail)
  rw [← HT.out]
  clear z4 b4 fC fB
  refine wp_region_C (fun w' => w'.row? C = some #[.int .i64 (k : Int), .int .i64 (r1 : Int), .int .i64 (r2 : Int), .int .i64 (r3 : Int), .int .i64 (im : Int)] ∧ w'.row? B = some #[.int .i64 (k : Int), .int .i64 (rd : Int), .int .i64 (rs1 : Int), .int .i64 (rs2 : Int), .int .i64 (imm : Int)]) [(0, 0), (1, 1), (2, 1), (3, 0), (4, 0), (5, 0)] rfl (by kernel_rfl) ?hSR ?hTR
  case hSR => exact ⟨TC.out, TB.out⟩
  refine wpT_pureD (v := ?_) (some 183) rfl rfl (by rfl) (fun w' => ?_) ?_
  rotate_left
  · (go_simp; try with_reducible rfl)
  try simp only [Act.put, List.setIfInBounds_toArray, List.set_cons_zero, List.set_cons_succ]
  refine wpT_load_part a29 [.int .i64 (k : Int), .int .i64 (r1 : Int), .int .i64 (r2 : Int), .int .i64 (r3 : Int), .int .i64 (im : Int)] (some 184) _ rfl rfl rfl (by rfl) rfl rfl (fun w' hw j u hu => by rw [Nat.zero_add, row_cell hw.1]; simpa using hu) ?_
  try simp only [Act.put, List.setIfInBounds_toArray, List.set_cons_zero, List.set_cons_succ]
  refine wpT_load_part a29 [.int .i64 (k : Int), .int .i64 (rd : Int), .int .i64 (rs1 : Int), .int .i64 (rs2 : Int), .int .i64 (imm : Int)] (some 185) _ rfl rfl rfl (by rfl) rfl rfl (fun w' hw j u hu => by rw [Nat.zero_add, row_cell hw.2]; simpa using hu) ?_
  try simp only [Act.put, List.setIfInBounds_toArray, List.set_cons_zero, List.set_cons_succ]
  refine wpT_pureD (v := .bool p) (some 186) rfl rfl (by rfl) (fun w' => ?_) ?_
  · rw [HP.out]
    by_cases q1 : r1 = rd
    · subst q1
      by_cases q2 : r2 = rs1
      · subst q2
        by_cases q3 : r3 = rs2
        · subst q3
          by_cases q4 : im = imm
          · subst q4
            go_simp
          · have z1 : ((im : Int) == (imm : Int)) = false := natne _ _ q4
            go_simp
        · have z1 : ((r3 : Int) == (rs2 : Int)) = false := natne _ _ q3
          go_simp
      · have z1 : ((r2 : Int) == (rs1 : Int)) = false := natne _ _ q2
        go_simp
    · have z1 : ((r1 : Int) == (rd : Int)) = false := natne _ _ q1
      go_simp
  try simp only [Act.put, List.setIfInBounds_toArray, List.set_cons_zero, List.set_cons_succ]
  refine wpT_pureD (v := ?_) (some 2) rfl rfl (by rfl) (fun w' => ?_) ?_
  rotate_left
  · (go_simp; try with_reducible rfl)
  try simp only [Act.put, List.setIfInBounds_toArray, List.set_cons_zero, List.set_cons_succ]
  refine wpT_pureD (v := ?_) (some 3) rfl rfl (by rfl) (fun w' => ?_) ?_
  rotate_left
  · (go_simp; try with_reducible rfl)
  try simp only [Act.put, List.setIfInBounds_toArray, List.set_cons_zero, List.set_cons_succ]
  refine wpT_end ?_
  go_wp2
  go_ret2
  exact ⟨rfl, HCT.out.drew⟩
set_option maxRecDepth 100000 in
set_option maxHeartbeats 1600000 in
theorem renc_T (k rd rs1 rs2 imm : Nat) (h1 : 1 ≤ k) (h2 : k < 57) (hl : frmL k = 84) (hrd : rd < 32) (hrs1 : rs1 < 32) (hrs2 : rs2 < 32) (hi : imm < 4294967296) (w : World) :
    Calls Tryd.prog 13 #[.agg #[.int .i64 (k : Int), .int .i64 (rd : Int), .int .i64 (rs1 : Int), .int .i64 (rs2 : Int), .int .i64 (imm : Int)]] w fun e w' => e = .returned (.tuple #[.int .i64 ((encR 84 (wrdC k) rd rs1 rs2 imm : Nat) : Int), .bool (decide (decN (encR 84 (wrdC k) rd rs1 rs2 imm) = ⟨k, rd, rs1, rs2, imm⟩))]) ∧ Chg [] w w' := by
  obtain ⟨hw32, hfit, _⟩ := de_T k rd rs1 rs2 imm _ h1 h2 hl hrd hrs1 hrs2 hi rfl
  have HDK := Lib.hid (rdec_k k _ h1 h2 hw32 hfit)
  have hop := (dl_any _ k hw32 h1 h2 hfit).1
  obtain ⟨B, hB⟩ : ∃ B, B = w.heap.size := ⟨_, rfl⟩
  obtain ⟨V, hV⟩ : ∃ V, V = w.alloc (.cells #[.int .i64 (k : Int), .int .i64 (rd : Int), .int .i64 (rs1 : Int), .int .i64 (rs2 : Int), .int .i64 (imm : Int)] 29) := ⟨_, rfl⟩
  have hcV : Chg [] w V := by rw [hV]; exact (Chg.refl _ _).alloc _
  have rb : V.row? B = some #[.int .i64 (k : Int), .int .i64 (rd : Int), .int .i64 (rs1 : Int), .int .i64 (rs2 : Int), .int .i64 (imm : Int)] := by rw [hV]; exact row_alloc_at _ _ _ _ hB
  obtain ⟨L, hL⟩ : ∃ L, L = V.heap.size := ⟨_, rfl⟩
  have HLI := list_any V
  rw [← hL] at HLI
  have HLI := Lib.hid HLI
  have HCV := Lib.hid hcV
  have HRB := Lib.hid rb
  have HVV := Lib.hid hV
  have HBB := Lib.hid hB
  obtain ⟨cw, hcw⟩ : ∃ W, W = wrdC k := ⟨_, rfl⟩
  have hc32 := (letK k h2 h1).2.1
  rw [← hcw] at hc32 HDK hop ⊢
  have HCW := Lib.hid hcw
  have HK2 := Lib.hid h2
  have HL := Lib.hid hl
  have g1 : decide ((k : Int) < 1) = false := by simp; omega
  have g2 : decide (57 ≤ (k : Int)) = false := by simp; omega
  have g3 : decide ((rd : Int) < 0) = false := by simp
  have g4 : decide (31 < (rd : Int)) = false := by simp; omega
  have g5 : decide ((rs1 : Int) < 0) = false := by simp
  have g6 : decide (31 < (rs1 : Int)) = false := by simp; omega
  have g7 : decide ((rs2 : Int) < 0) = false := by simp
  have g8 : decide (31 < (rs2 : Int)) = false := by simp; omega
  have hkI : (k : Int) < 57 := by omega
  have n2 : bits .and .i64 (imm : Int) 4294967295 = (imm : Int) := by rw [and64m]; omega
  have m1 : bits .and .i64 (imm : Int) 31 = ((imm % 32 : Nat) : Int) := and64l imm 31 5 hi rfl (by decide)
  obtain ⟨q, hq⟩ : ∃ q, q = imm % 32 := ⟨_, rfl⟩
  rw [← hq] at m1
  have hq32 : q < 32 := by omega
  have l1 : rd * 128 < 4294967296 := by omega
  have e1 : bits .or .i64 (cw : Int) ((rd : Int) * 128) = ((cw ||| rd * 128 : Nat) : Int) := by
    rw [show (rd : Int) * 128 = ((rd * 128 : Nat) : Int) by omega]; exact or64 _ _ hc32 l1
  have v1 : wrap64 ((rd : Int) * 128) = (rd : Int) * 128 := IntWalk.wrap64_in _ ⟨by omega, by omega⟩
  have hb1 := or_lt hc32 l1
  obtain ⟨d1, hd1⟩ : ∃ d, d = cw ||| rd * 128 := ⟨_, rfl⟩
  rw [← hd1] at e1 hb1
  have l2 : rs1 * 32768 < 4294967296 := by omega
  have e2 : bits .or .i64 (d1 : Int) ((rs1 : Int) * 32768) = ((d1 ||| rs1 * 32768 : Nat) : Int) := by
    rw [show (rs1 : Int) * 32768 = ((rs1 * 32768 : Nat) : Int) by omega]; exact or64 _ _ hb1 l2
  have v2 : wrap64 ((rs1 : Int) * 32768) = (rs1 : Int) * 32768 := IntWalk.wrap64_in _ ⟨by omega, by omega⟩
  have hb2 := or_lt hb1 l2
  obtain ⟨d2, hd2⟩ : ∃ d, d = d1 ||| rs1 * 32768 := ⟨_, rfl⟩
  rw [← hd2] at e2 hb2
  have l3 : q * 1048576 < 4294967296 := by omega
  have e3 : bits .or .i64 (d2 : Int) ((q : Int) * 1048576) = ((d2 ||| q * 1048576 : Nat) : Int) := by
    rw [show (q : Int) * 1048576 = ((q * 1048576 : Nat) : Int) by omega]; exact or64 _ _ hb2 l3
  have v3 : wrap64 ((q : Int) * 1048576) = (q : Int) * 1048576 := IntWalk.wrap64_in _ ⟨by omega, by omega⟩
  have hb3 := or_lt hb2 l3
  obtain ⟨d3, hd3⟩ : ∃ d, d = d2 ||| q * 1048576 := ⟨_, rfl⟩
  rw [← hd3] at e3 hb3
  obtain ⟨R, hR⟩ : ∃ R, R = d3 := ⟨_, rfl⟩
  have hres : encR 84 cw rd rs1 rs2 imm = R := by rw [hR, hd3, hd2, hd1, hq]; rfl
  rw [hres] at HDK hop ⊢
  rw [← hR] at e3
  have HII := Lib.hid hi
  obtain ⟨i, hi5⟩ : ∃ i, i = decN R := ⟨_, rfl⟩
  rw [← hi5] at HDK hop ⊢
  obtain ⟨io, r1, r2, r3, im⟩ := i
  obtain rfl : k = io := hop.symm
  obtain ⟨p, hp⟩ : ∃ p, p = decide ((⟨k, r1, r2, r3, im⟩ : I5) = ⟨k, rd, rs1, rs2, imm⟩) := ⟨_, rfl⟩
  rw [← hp]
  have HP := Lib.hid hp
  clear hi5 hp hres hcV rb hV hB hL hcw hl h2 h1 hw32 hfit hi hrd hrs1 hrs2 hd1 l1 hb1 hd2 l2 hb2 hd3 l3 hb3 hR hq hq32 hc32
  go_enter Tryd.func13, Tryd.ntmps13
  go_upto_region 1 with (fail)
  rw [← HBB.out, ← HVV.out]
  go_wp2_with fail
  refine HLI.out.mono ?_
  rintro e w1 ⟨rfl, hrow, hc1⟩
  have HC1 := Lib.hid (HCV.out.trans hc1)
  have hrb1 : w1.row? B = some #[.int .i64 (k : Int), .int .i64 (rd : Int), .int .i64 (rs1 : Int), .int .i64 (rs2 : Int), .int .i64 (imm : Int)] := by rw [hc1.row (row_lt HRB.out) (by simp)]; exact HRB.out
  have c0 : w1.cell? ⟨B, 0, none⟩ = some (.int .i64 (k : Int)) := by rw [row_cell hrb1]; rfl
  have c1 : w1.cell? ⟨B, 1, none⟩ = some (.int .i64 (rd : Int)) := by rw [row_cell hrb1]; rfl
  have c2 : w1.cell? ⟨B, 2, none⟩ = some (.int .i64 (rs1 : Int)) := by rw [row_cell hrb1]; rfl
  have c3 : w1.cell? ⟨B, 3, none⟩ = some (.int .i64 (rs2 : Int)) := by rw [row_cell hrb1]; rfl
  have c4 : w1.cell? ⟨B, 4, none⟩ = some (.int .i64 (imm : Int)) := by rw [row_cell hrb1]; rfl
  have cf : w1.cell? ⟨L, k * 2, none⟩ = some (.string ⟨#[84]⟩) := by rw [row_cell hrow, show (⟨#[84]⟩ : ByteArray) = strB (frmL k) by rw [HL.out]; rfl]; simpa using listA_frm k HK2.out
  have cg : w1.cell? ⟨L, k * 2 + 1, none⟩ = some (.int .i64 (cw : Int)) := by rw [row_cell hrow, HCW.out]; simpa using listA_word k HK2.out
  have HRB1 := Lib.hid hrb1
  clear hrow hc1 hrb1 HLI HRB HCV
  have HRB2 := HRB1
  have HC2 := HC1
  go_wp2_with fail
  refine (HDK.out _).mono ?_
  rintro e w3 ⟨z, hz, rfl, hc3⟩
  have n1 : bits .and .i64 z 4294967295 = (im : Int) := by rw [and64m, hz]
  obtain ⟨C, hC⟩ : ∃ C, C = w3.heap.size := ⟨_, rfl⟩
  obtain ⟨Z, hZ⟩ : ∃ Z, Z = w3.alloc (.cells #[.int .i64 (k : Int), .int .i64 (r1 : Int), .int .i64 (r2 : Int), .int .i64 (r3 : Int), .int .i64 z] 29) := ⟨_, rfl⟩
  have hcZ := hc3.alloc (.cells #[.int .i64 (k : Int), .int .i64 (r1 : Int), .int .i64 (r2 : Int), .int .i64 (r3 : Int), .int .i64 z] 29)
  rw [← hZ] at hcZ
  have rC : Z.row? C = some #[.int .i64 (k : Int), .int .i64 (r1 : Int), .int .i64 (r2 : Int), .int .i64 (r3 : Int), .int .i64 z] := by rw [hZ]; exact row_alloc_at _ _ _ _ hC
  have rB : Z.row? B = some #[.int .i64 (k : Int), .int .i64 (rd : Int), .int .i64 (rs1 : Int), .int .i64 (rs2 : Int), .int .i64 (imm : Int)] := by rw [hcZ.row (row_lt HRB2.out) (by simp)]; exact HRB2.out
  have hBC : B ≠ C := by have := row_lt HRB2.out; have := hc3.size; omega
  have hCw : w.heap.size ≤ C := by have := HC2.out.size; have := hc3.size; omega
  have hBw : w.heap.size ≤ B := by have := HBB.out; omega
  obtain ⟨U, hU⟩ : ∃ U, U = Z.setCell ⟨C, 4, none⟩ (.int .i64 (im : Int)) := ⟨_, rfl⟩
  obtain ⟨T, hT⟩ : ∃ T, T = U.setCell ⟨B, 4, none⟩ (.int .i64 (imm : Int)) := ⟨_, rfl⟩
  have uC : U.row? C = some #[.int .i64 (k : Int), .int .i64 (r1 : Int), .int .i64 (r2 : Int), .int .i64 (r3 : Int), .int .i64 (im : Int)] := by rw [hU, row_setCell_same, rC]; rfl
  have uB : U.row? B = some #[.int .i64 (k : Int), .int .i64 (rd : Int), .int .i64 (rs1 : Int), .int .i64 (rs2 : Int), .int .i64 (imm : Int)] := by rw [hU, row_setCell_other _ _ _ _ (by simpa using hBC)]; exact rB
  have tC : T.row? C = some #[.int .i64 (k : Int), .int .i64 (r1 : Int), .int .i64 (r2 : Int), .int .i64 (r3 : Int), .int .i64 (im : Int)] := by rw [hT, row_setCell_other _ _ _ _ (by simpa using Ne.symm hBC)]; exact uC
  have tB : T.row? B = some #[.int .i64 (k : Int), .int .i64 (rd : Int), .int .i64 (rs1 : Int), .int .i64 (rs2 : Int), .int .i64 (imm : Int)] := by rw [hT, row_setCell_same, uB]; rfl
  have HCT : Hid (Chg [] w T) := Lib.hid (by rw [hT, hU]; exact ((HC2.out.trans hcZ).setCell (Or.inr hCw) _).setCell (Or.inr hBw) _)
  have z4 : Z.cell? ⟨C, 4, none⟩ = some (.int .i64 z) := by rw [row_cell rC]; rfl
  have b4 : U.cell? ⟨B, 4, none⟩ = some (.int .i64 (imm : Int)) := by rw [row_cell uB]; rfl
  have fC := row_free rC 4
  have fB := row_free uB 4
  have TB := Lib.hid tB
  have TC := Lib.hid tC
  have HZ := Lib.hid hZ
  have HU := Lib.hid hU
  have HT := Lib.hid hT
  have HCC := Lib.hid hC
  clear hz hc3 hZ hcZ rC rB hBC hCw hBw hU hT uC uB tC tB hC
  go_upto_region 19 with (refine wpList_store_new a29 _ _ rfl rfl rfl rfl rfl rfl rfl rfl ?_)
  rw [← HCC.out, ← HZ.out]
  go_upto_region 20 with (fail)
  rw [← HU.out]
  go_upto_region 21 with (fail)
  rw [← HT.out]
  clear z4 b4 fC fB
  refine wp_region_C (fun w' => w'.row? C = some #[.int .i64 (k : Int), .int .i64 (r1 : Int), .int .i64 (r2 : Int), .int .i64 (r3 : Int), .int .i64 (im : Int)] ∧ w'.row? B = some #[.int .i64 (k : Int), .int .i64 (rd : Int), .int .i64 (rs1 : Int), .int .i64 (rs2 : Int), .int .i64 (imm : Int)]) [(0, 0), (1, 1), (2, 1), (3, 0), (4, 0), (5, 0)] rfl (by kernel_rfl) ?hST ?hTT
  case hST => exact ⟨TC.out, TB.out⟩
  refine wpT_pureD (v := ?_) (some 183) rfl rfl (by rfl) (fun w' => ?_) ?_
  rotate_left
  · (go_simp; try with_reducible rfl)
  try simp only [Act.put, List.setIfInBounds_toArray, List.set_cons_zero, List.set_cons_succ]
  refine wpT_load_part a29 [.int .i64 (k : Int), .int .i64 (r1 : Int), .int .i64 (r2 : Int), .int .i64 (r3 : Int), .int .i64 (im : Int)] (some 184) _ rfl rfl rfl (by rfl) rfl rfl (fun w' hw j u hu => by rw [Nat.zero_add, row_cell hw.1]; simpa using hu) ?_
  try simp only [Act.put, List.setIfInBounds_toArray, List.set_cons_zero, List.set_cons_succ]
  refine wpT_load_part a29 [.int .i64 (k : Int), .int .i64 (rd : Int), .int .i64 (rs1 : Int), .int .i64 (rs2 : Int), .int .i64 (imm : Int)] (some 185) _ rfl rfl rfl (by rfl) rfl rfl (fun w' hw j u hu => by rw [Nat.zero_add, row_cell hw.2]; simpa using hu) ?_
  try simp only [Act.put, List.setIfInBounds_toArray, List.set_cons_zero, List.set_cons_succ]
  refine wpT_pureD (v := .bool p) (some 186) rfl rfl (by rfl) (fun w' => ?_) ?_
  · rw [HP.out]
    by_cases q1 : r1 = rd
    · subst q1
      by_cases q2 : r2 = rs1
      · subst q2
        by_cases q3 : r3 = rs2
        · subst q3
          by_cases q4 : im = imm
          · subst q4
            go_simp
          · have z1 : ((im : Int) == (imm : Int)) = false := natne _ _ q4
            go_simp
        · have z1 : ((r3 : Int) == (rs2 : Int)) = false := natne _ _ q3
          go_simp
      · have z1 : ((r2 : Int) == (rs1 : Int)) = false := natne _ _ q2
        go_simp
    · have z1 : ((r1 : Int) == (rd : Int)) = false := natne _ _ q1
      go_simp
  try simp only [Act.put, List.setIfInBounds_toArray, List.set_cons_zero, List.set_cons_succ]
  refine wpT_pureD (v := ?_) (some 2) rfl rfl (by rfl) (fun w' => ?_) ?_
  rotate_left
  · (go_simp; try with_reducible rfl)
  try simp only [Act.put, List.setIfInBounds_toArray, List.set_cons_zero, List.set_cons_succ]
  refine wpT_pureD (v := ?_) (some 3) rfl rfl (by rfl) (fun w' => ?_) ?_
  rotate_left
  · (go_simp; try with_reducible rfl)
  try simp only [Act.put, List.setIfInBounds_toArray, List.set_cons_zero, List.set_cons_succ]
  refine wpT_end ?_
  go_wp2
  go_ret2
  exact ⟨rfl, HCT.out.drew⟩
set_option maxRecDepth 100000 in
set_option maxHeartbeats 1600000 in
theorem renc_N (k rd rs1 rs2 imm : Nat) (h1 : 1 ≤ k) (h2 : k < 57) (hl : frmL k = 78) (hrd : rd < 32) (hrs1 : rs1 < 32) (hrs2 : rs2 < 32) (hi : imm < 4294967296) (w : World) :
    Calls Tryd.prog 13 #[.agg #[.int .i64 (k : Int), .int .i64 (rd : Int), .int .i64 (rs1 : Int), .int .i64 (rs2 : Int), .int .i64 (imm : Int)]] w fun e w' => e = .returned (.tuple #[.int .i64 ((encR 78 (wrdC k) rd rs1 rs2 imm : Nat) : Int), .bool (decide (decN (encR 78 (wrdC k) rd rs1 rs2 imm) = ⟨k, rd, rs1, rs2, imm⟩))]) ∧ Chg [] w w' := by
  obtain ⟨hw32, hfit, _⟩ := de_N k rd rs1 rs2 imm _ h1 h2 hl hrd hrs1 hrs2 hi rfl
  have HDK := Lib.hid (rdec_k k _ h1 h2 hw32 hfit)
  have hop := (dl_any _ k hw32 h1 h2 hfit).1
  obtain ⟨B, hB⟩ : ∃ B, B = w.heap.size := ⟨_, rfl⟩
  obtain ⟨V, hV⟩ : ∃ V, V = w.alloc (.cells #[.int .i64 (k : Int), .int .i64 (rd : Int), .int .i64 (rs1 : Int), .int .i64 (rs2 : Int), .int .i64 (imm : Int)] 29) := ⟨_, rfl⟩
  have hcV : Chg [] w V := by rw [hV]; exact (Chg.refl _ _).alloc _
  have rb : V.row? B = some #[.int .i64 (k : Int), .int .i64 (rd : Int), .int .i64 (rs1 : Int), .int .i64 (rs2 : Int), .int .i64 (imm : Int)] := by rw [hV]; exact row_alloc_at _ _ _ _ hB
  obtain ⟨L, hL⟩ : ∃ L, L = V.heap.size := ⟨_, rfl⟩
  have HLI := list_any V
  rw [← hL] at HLI
  have HLI := Lib.hid HLI
  have HCV := Lib.hid hcV
  have HRB := Lib.hid rb
  have HVV := Lib.hid hV
  have HBB := Lib.hid hB
  obtain ⟨cw, hcw⟩ : ∃ W, W = wrdC k := ⟨_, rfl⟩
  have hc32 := (letK k h2 h1).2.1
  rw [← hcw] at hc32 HDK hop ⊢
  have HCW := Lib.hid hcw
  have HK2 := Lib.hid h2
  have HL := Lib.hid hl
  have g1 : decide ((k : Int) < 1) = false := by simp; omega
  have g2 : decide (57 ≤ (k : Int)) = false := by simp; omega
  have g3 : decide ((rd : Int) < 0) = false := by simp
  have g4 : decide (31 < (rd : Int)) = false := by simp; omega
  have g5 : decide ((rs1 : Int) < 0) = false := by simp
  have g6 : decide (31 < (rs1 : Int)) = false := by simp; omega
  have g7 : decide ((rs2 : Int) < 0) = false := by simp
  have g8 : decide (31 < (rs2 : Int)) = false := by simp; omega
  have hkI : (k : Int) < 57 := by omega
  have n2 : bits .and .i64 (imm : Int) 4294967295 = (imm : Int) := by rw [and64m]; omega
  obtain ⟨R, hR⟩ : ∃ R, R = cw := ⟨_, rfl⟩
  have hres : encR 78 cw rd rs1 rs2 imm = R := by rw [hR]; rfl
  rw [hres] at HDK hop ⊢
  subst hR
  have HII := Lib.hid hi
  obtain ⟨i, hi5⟩ : ∃ i, i = decN R := ⟨_, rfl⟩
  rw [← hi5] at HDK hop ⊢
  obtain ⟨io, r1, r2, r3, im⟩ := i
  obtain rfl : k = io := hop.symm
  obtain ⟨p, hp⟩ : ∃ p, p = decide ((⟨k, r1, r2, r3, im⟩ : I5) = ⟨k, rd, rs1, rs2, imm⟩) := ⟨_, rfl⟩
  rw [← hp]
  have HP := Lib.hid hp
  clear hi5 hp hres hcV rb hV hB hL hcw hl h2 h1 hw32 hfit hi hrd hrs1 hrs2    hc32
  go_enter Tryd.func13, Tryd.ntmps13
  go_upto_region 1 with (fail)
  rw [← HBB.out, ← HVV.out]
  go_wp2_with fail
  refine HLI.out.mono ?_
  rintro e w1 ⟨rfl, hrow, hc1⟩
  have HC1 := Lib.hid (HCV.out.trans hc1)
  have hrb1 : w1.row? B = some #[.int .i64 (k : Int), .int .i64 (rd : Int), .int .i64 (rs1 : Int), .int .i64 (rs2 : Int), .int .i64 (imm : Int)] := by rw [hc1.row (row_lt HRB.out) (by simp)]; exact HRB.out
  have c0 : w1.cell? ⟨B, 0, none⟩ = some (.int .i64 (k : Int)) := by rw [row_cell hrb1]; rfl
  have c1 : w1.cell? ⟨B, 1, none⟩ = some (.int .i64 (rd : Int)) := by rw [row_cell hrb1]; rfl
  have c2 : w1.cell? ⟨B, 2, none⟩ = some (.int .i64 (rs1 : Int)) := by rw [row_cell hrb1]; rfl
  have c3 : w1.cell? ⟨B, 3, none⟩ = some (.int .i64 (rs2 : Int)) := by rw [row_cell hrb1]; rfl
  have c4 : w1.cell? ⟨B, 4, none⟩ = some (.int .i64 (imm : Int)) := by rw [row_cell hrb1]; rfl
  have cf : w1.cell? ⟨L, k * 2, none⟩ = some (.string ⟨#[78]⟩) := by rw [row_cell hrow, show (⟨#[78]⟩ : ByteArray) = strB (frmL k) by rw [HL.out]; rfl]; simpa using listA_frm k HK2.out
  have cg : w1.cell? ⟨L, k * 2 + 1, none⟩ = some (.int .i64 (R : Int)) := by rw [row_cell hrow, HCW.out]; simpa using listA_word k HK2.out
  have HRB1 := Lib.hid hrb1
  clear hrow hc1 hrb1 HLI HRB HCV
  have HRB2 := HRB1
  have HC2 := HC1
  go_wp2_with fail
  refine (HDK.out _).mono ?_
  rintro e w3 ⟨z, hz, rfl, hc3⟩
  have n1 : bits .and .i64 z 4294967295 = (im : Int) := by rw [and64m, hz]
  obtain ⟨C, hC⟩ : ∃ C, C = w3.heap.size := ⟨_, rfl⟩
  obtain ⟨Z, hZ⟩ : ∃ Z, Z = w3.alloc (.cells #[.int .i64 (k : Int), .int .i64 (r1 : Int), .int .i64 (r2 : Int), .int .i64 (r3 : Int), .int .i64 z] 29) := ⟨_, rfl⟩
  have hcZ := hc3.alloc (.cells #[.int .i64 (k : Int), .int .i64 (r1 : Int), .int .i64 (r2 : Int), .int .i64 (r3 : Int), .int .i64 z] 29)
  rw [← hZ] at hcZ
  have rC : Z.row? C = some #[.int .i64 (k : Int), .int .i64 (r1 : Int), .int .i64 (r2 : Int), .int .i64 (r3 : Int), .int .i64 z] := by rw [hZ]; exact row_alloc_at _ _ _ _ hC
  have rB : Z.row? B = some #[.int .i64 (k : Int), .int .i64 (rd : Int), .int .i64 (rs1 : Int), .int .i64 (rs2 : Int), .int .i64 (imm : Int)] := by rw [hcZ.row (row_lt HRB2.out) (by simp)]; exact HRB2.out
  have hBC : B ≠ C := by have := row_lt HRB2.out; have := hc3.size; omega
  have hCw : w.heap.size ≤ C := by have := HC2.out.size; have := hc3.size; omega
  have hBw : w.heap.size ≤ B := by have := HBB.out; omega
  obtain ⟨U, hU⟩ : ∃ U, U = Z.setCell ⟨C, 4, none⟩ (.int .i64 (im : Int)) := ⟨_, rfl⟩
  obtain ⟨T, hT⟩ : ∃ T, T = U.setCell ⟨B, 4, none⟩ (.int .i64 (imm : Int)) := ⟨_, rfl⟩
  have uC : U.row? C = some #[.int .i64 (k : Int), .int .i64 (r1 : Int), .int .i64 (r2 : Int), .int .i64 (r3 : Int), .int .i64 (im : Int)] := by rw [hU, row_setCell_same, rC]; rfl
  have uB : U.row? B = some #[.int .i64 (k : Int), .int .i64 (rd : Int), .int .i64 (rs1 : Int), .int .i64 (rs2 : Int), .int .i64 (imm : Int)] := by rw [hU, row_setCell_other _ _ _ _ (by simpa using hBC)]; exact rB
  have tC : T.row? C = some #[.int .i64 (k : Int), .int .i64 (r1 : Int), .int .i64 (r2 : Int), .int .i64 (r3 : Int), .int .i64 (im : Int)] := by rw [hT, row_setCell_other _ _ _ _ (by simpa using Ne.symm hBC)]; exact uC
  have tB : T.row? B = some #[.int .i64 (k : Int), .int .i64 (rd : Int), .int .i64 (rs1 : Int), .int .i64 (rs2 : Int), .int .i64 (imm : Int)] := by rw [hT, row_setCell_same, uB]; rfl
  have HCT : Hid (Chg [] w T) := Lib.hid (by rw [hT, hU]; exact ((HC2.out.trans hcZ).setCell (Or.inr hCw) _).setCell (Or.inr hBw) _)
  have z4 : Z.cell? ⟨C, 4, none⟩ = some (.int .i64 z) := by rw [row_cell rC]; rfl
  have b4 : U.cell? ⟨B, 4, none⟩ = some (.int .i64 (imm : Int)) := by rw [row_cell uB]; rfl
  have fC := row_free rC 4
  have fB := row_free uB 4
  have TB := Lib.hid tB
  have TC := Lib.hid tC
  have HZ := Lib.hid hZ
  have HU := Lib.hid hU
  have HT := Lib.hid hT
  have HCC := Lib.hid hC
  clear hz hc3 hZ hcZ rC rB hBC hCw hBw hU hT uC uB tC tB hC
  go_upto_region 19 with (refine wpList_store_new a29 _ _ rfl rfl rfl rfl rfl rfl rfl rfl ?_)
  rw [← HCC.out, ← HZ.out]
  go_upto_region 20 with (fail)
  rw [← HU.out]
  go_upto_region 21 with (fail)
  rw [← HT.out]
  clear z4 b4 fC fB
  refine wp_region_C (fun w' => w'.row? C = some #[.int .i64 (k : Int), .int .i64 (r1 : Int), .int .i64 (r2 : Int), .int .i64 (r3 : Int), .int .i64 (im : Int)] ∧ w'.row? B = some #[.int .i64 (k : Int), .int .i64 (rd : Int), .int .i64 (rs1 : Int), .int .i64 (rs2 : Int), .int .i64 (imm : Int)]) [(0, 0), (1, 1), (2, 1), (3, 0), (4, 0), (5, 0)] rfl (by kernel_rfl) ?hSN ?hTN
  case hSN => exact ⟨TC.out, TB.out⟩
  refine wpT_pureD (v := ?_) (some 183) rfl rfl (by rfl) (fun w' => ?_) ?_
  rotate_left
  · (go_simp; try with_reducible rfl)
  try simp only [Act.put, List.setIfInBounds_toArray, List.set_cons_zero, List.set_cons_succ]
  refine wpT_load_part a29 [.int .i64 (k : Int), .int .i64 (r1 : Int), .int .i64 (r2 : Int), .int .i64 (r3 : Int), .int .i64 (im : Int)] (some 184) _ rfl rfl rfl (by rfl) rfl rfl (fun w' hw j u hu => by rw [Nat.zero_add, row_cell hw.1]; simpa using hu) ?_
  try simp only [Act.put, List.setIfInBounds_toArray, List.set_cons_zero, List.set_cons_succ]
  refine wpT_load_part a29 [.int .i64 (k : Int), .int .i64 (rd : Int), .int .i64 (rs1 : Int), .int .i64 (rs2 : Int), .int .i64 (imm : Int)] (some 185) _ rfl rfl rfl (by rfl) rfl rfl (fun w' hw j u hu => by rw [Nat.zero_add, row_cell hw.2]; simpa using hu) ?_
  try simp only [Act.put, List.setIfInBounds_toArray, List.set_cons_zero, List.set_cons_succ]
  refine wpT_pureD (v := .bool p) (some 186) rfl rfl (by rfl) (fun w' => ?_) ?_
  · rw [HP.out]
    by_cases q1 : r1 = rd
    · subst q1
      by_cases q2 : r2 = rs1
      · subst q2
        by_cases q3 : r3 = rs2
        · subst q3
          by_cases q4 : im = imm
          · subst q4
            go_simp
          · have z1 : ((im : Int) == (imm : Int)) = false := natne _ _ q4
            go_simp
        · have z1 : ((r3 : Int) == (rs2 : Int)) = false := natne _ _ q3
          go_simp
      · have z1 : ((r2 : Int) == (rs1 : Int)) = false := natne _ _ q2
        go_simp
    · have z1 : ((r1 : Int) == (rd : Int)) = false := natne _ _ q1
      go_simp
  try simp only [Act.put, List.setIfInBounds_toArray, List.set_cons_zero, List.set_cons_succ]
  refine wpT_pureD (v := ?_) (some 2) rfl rfl (by rfl) (fun w' => ?_) ?_
  rotate_left
  · (go_simp; try with_reducible rfl)
  try simp only [Act.put, List.setIfInBounds_toArray, List.set_cons_zero, List.set_cons_succ]
  refine wpT_pureD (v := ?_) (some 3) rfl rfl (by rfl) (fun w' => ?_) ?_
  rotate_left
  · (go_simp; try with_reducible rfl)
  try simp only [Act.put, List.setIfInBounds_toArray, List.set_cons_zero, List.set_cons_succ]
  refine wpT_end ?_
  go_wp2
  go_ret2
  exact ⟨rfl, HCT.out.drew⟩
set_option maxRecDepth 100000 in
set_option maxHeartbeats 1600000 in
theorem renc_C (k rd rs1 rs2 imm : Nat) (h1 : 1 ≤ k) (h2 : k < 57) (hl : frmL k = 67) (hrd : rd < 32) (hrs1 : rs1 < 32) (hrs2 : rs2 < 32) (hi : imm < 4294967296) (w : World) :
    Calls Tryd.prog 13 #[.agg #[.int .i64 (k : Int), .int .i64 (rd : Int), .int .i64 (rs1 : Int), .int .i64 (rs2 : Int), .int .i64 (imm : Int)]] w fun e w' => e = .returned (.tuple #[.int .i64 ((encR 67 (wrdC k) rd rs1 rs2 imm : Nat) : Int), .bool (decide (decN (encR 67 (wrdC k) rd rs1 rs2 imm) = ⟨k, rd, rs1, rs2, imm⟩))]) ∧ Chg [] w w' := by
  obtain ⟨hw32, hfit, _⟩ := de_C k rd rs1 rs2 imm _ h1 h2 hl hrd hrs1 hrs2 hi rfl
  have HDK := Lib.hid (rdec_k k _ h1 h2 hw32 hfit)
  have hop := (dl_any _ k hw32 h1 h2 hfit).1
  obtain ⟨B, hB⟩ : ∃ B, B = w.heap.size := ⟨_, rfl⟩
  obtain ⟨V, hV⟩ : ∃ V, V = w.alloc (.cells #[.int .i64 (k : Int), .int .i64 (rd : Int), .int .i64 (rs1 : Int), .int .i64 (rs2 : Int), .int .i64 (imm : Int)] 29) := ⟨_, rfl⟩
  have hcV : Chg [] w V := by rw [hV]; exact (Chg.refl _ _).alloc _
  have rb : V.row? B = some #[.int .i64 (k : Int), .int .i64 (rd : Int), .int .i64 (rs1 : Int), .int .i64 (rs2 : Int), .int .i64 (imm : Int)] := by rw [hV]; exact row_alloc_at _ _ _ _ hB
  obtain ⟨L, hL⟩ : ∃ L, L = V.heap.size := ⟨_, rfl⟩
  have HLI := list_any V
  rw [← hL] at HLI
  have HLI := Lib.hid HLI
  have HCV := Lib.hid hcV
  have HRB := Lib.hid rb
  have HVV := Lib.hid hV
  have HBB := Lib.hid hB
  obtain ⟨cw, hcw⟩ : ∃ W, W = wrdC k := ⟨_, rfl⟩
  have hc32 := (letK k h2 h1).2.1
  rw [← hcw] at hc32 HDK hop ⊢
  have HCW := Lib.hid hcw
  have HK2 := Lib.hid h2
  have HL := Lib.hid hl
  have g1 : decide ((k : Int) < 1) = false := by simp; omega
  have g2 : decide (57 ≤ (k : Int)) = false := by simp; omega
  have g3 : decide ((rd : Int) < 0) = false := by simp
  have g4 : decide (31 < (rd : Int)) = false := by simp; omega
  have g5 : decide ((rs1 : Int) < 0) = false := by simp
  have g6 : decide (31 < (rs1 : Int)) = false := by simp; omega
  have g7 : decide ((rs2 : Int) < 0) = false := by simp
  have g8 : decide (31 < (rs2 : Int)) = false := by simp; omega
  have hkI : (k : Int) < 57 := by omega
  have n2 : bits .and .i64 (imm : Int) 4294967295 = (imm : Int) := by rw [and64m]; omega
  have m1 : bits .and .i64 (imm : Int) 4095 = ((imm % 4096 : Nat) : Int) := and64l imm 4095 12 hi rfl (by decide)
  obtain ⟨q, hq⟩ : ∃ q, q = imm % 4096 := ⟨_, rfl⟩
  rw [← hq] at m1
  have hq32 : q < 4096 := by omega
  have l1 : rd * 128 < 4294967296 := by omega
  have e1 : bits .or .i64 (cw : Int) ((rd : Int) * 128) = ((cw ||| rd * 128 : Nat) : Int) := by
    rw [show (rd : Int) * 128 = ((rd * 128 : Nat) : Int) by omega]; exact or64 _ _ hc32 l1
  have v1 : wrap64 ((rd : Int) * 128) = (rd : Int) * 128 := IntWalk.wrap64_in _ ⟨by omega, by omega⟩
  have hb1 := or_lt hc32 l1
  obtain ⟨d1, hd1⟩ : ∃ d, d = cw ||| rd * 128 := ⟨_, rfl⟩
  rw [← hd1] at e1 hb1
  have l2 : rs1 * 32768 < 4294967296 := by omega
  have e2 : bits .or .i64 (d1 : Int) ((rs1 : Int) * 32768) = ((d1 ||| rs1 * 32768 : Nat) : Int) := by
    rw [show (rs1 : Int) * 32768 = ((rs1 * 32768 : Nat) : Int) by omega]; exact or64 _ _ hb1 l2
  have v2 : wrap64 ((rs1 : Int) * 32768) = (rs1 : Int) * 32768 := IntWalk.wrap64_in _ ⟨by omega, by omega⟩
  have hb2 := or_lt hb1 l2
  obtain ⟨d2, hd2⟩ : ∃ d, d = d1 ||| rs1 * 32768 := ⟨_, rfl⟩
  rw [← hd2] at e2 hb2
  have l3 : q * 1048576 < 4294967296 := by omega
  have e3 : bits .or .i64 (d2 : Int) ((q : Int) * 1048576) = ((d2 ||| q * 1048576 : Nat) : Int) := by
    rw [show (q : Int) * 1048576 = ((q * 1048576 : Nat) : Int) by omega]; exact or64 _ _ hb2 l3
  have v3 : wrap64 ((q : Int) * 1048576) = (q : Int) * 1048576 := IntWalk.wrap64_in _ ⟨by omega, by omega⟩
  have hb3 := or_lt hb2 l3
  obtain ⟨d3, hd3⟩ : ∃ d, d = d2 ||| q * 1048576 := ⟨_, rfl⟩
  rw [← hd3] at e3 hb3
  obtain ⟨R, hR⟩ : ∃ R, R = d3 := ⟨_, rfl⟩
  have hres : encR 67 cw rd rs1 rs2 imm = R := by rw [hR, hd3, hd2, hd1, hq]; rfl
  rw [hres] at HDK hop ⊢
  rw [← hR] at e3
  have HII := Lib.hid hi
  obtain ⟨i, hi5⟩ : ∃ i, i = decN R := ⟨_, rfl⟩
  rw [← hi5] at HDK hop ⊢
  obtain ⟨io, r1, r2, r3, im⟩ := i
  obtain rfl : k = io := hop.symm
  obtain ⟨p, hp⟩ : ∃ p, p = decide ((⟨k, r1, r2, r3, im⟩ : I5) = ⟨k, rd, rs1, rs2, imm⟩) := ⟨_, rfl⟩
  rw [← hp]
  have HP := Lib.hid hp
  clear hi5 hp hres hcV rb hV hB hL hcw hl h2 h1 hw32 hfit hi hrd hrs1 hrs2 hd1 l1 hb1 hd2 l2 hb2 hd3 l3 hb3 hR hq hq32 hc32
  go_enter Tryd.func13, Tryd.ntmps13
  go_upto_region 1 with (fail)
  rw [← HBB.out, ← HVV.out]
  go_wp2_with fail
  refine HLI.out.mono ?_
  rintro e w1 ⟨rfl, hrow, hc1⟩
  have HC1 := Lib.hid (HCV.out.trans hc1)
  have hrb1 : w1.row? B = some #[.int .i64 (k : Int), .int .i64 (rd : Int), .int .i64 (rs1 : Int), .int .i64 (rs2 : Int), .int .i64 (imm : Int)] := by rw [hc1.row (row_lt HRB.out) (by simp)]; exact HRB.out
  have c0 : w1.cell? ⟨B, 0, none⟩ = some (.int .i64 (k : Int)) := by rw [row_cell hrb1]; rfl
  have c1 : w1.cell? ⟨B, 1, none⟩ = some (.int .i64 (rd : Int)) := by rw [row_cell hrb1]; rfl
  have c2 : w1.cell? ⟨B, 2, none⟩ = some (.int .i64 (rs1 : Int)) := by rw [row_cell hrb1]; rfl
  have c3 : w1.cell? ⟨B, 3, none⟩ = some (.int .i64 (rs2 : Int)) := by rw [row_cell hrb1]; rfl
  have c4 : w1.cell? ⟨B, 4, none⟩ = some (.int .i64 (imm : Int)) := by rw [row_cell hrb1]; rfl
  have cf : w1.cell? ⟨L, k * 2, none⟩ = some (.string ⟨#[67]⟩) := by rw [row_cell hrow, show (⟨#[67]⟩ : ByteArray) = strB (frmL k) by rw [HL.out]; rfl]; simpa using listA_frm k HK2.out
  have cg : w1.cell? ⟨L, k * 2 + 1, none⟩ = some (.int .i64 (cw : Int)) := by rw [row_cell hrow, HCW.out]; simpa using listA_word k HK2.out
  have HRB1 := Lib.hid hrb1
  clear hrow hc1 hrb1 HLI HRB HCV
  have HRB2 := HRB1
  have HC2 := HC1
  go_wp2_with fail
  refine (HDK.out _).mono ?_
  rintro e w3 ⟨z, hz, rfl, hc3⟩
  have n1 : bits .and .i64 z 4294967295 = (im : Int) := by rw [and64m, hz]
  obtain ⟨C, hC⟩ : ∃ C, C = w3.heap.size := ⟨_, rfl⟩
  obtain ⟨Z, hZ⟩ : ∃ Z, Z = w3.alloc (.cells #[.int .i64 (k : Int), .int .i64 (r1 : Int), .int .i64 (r2 : Int), .int .i64 (r3 : Int), .int .i64 z] 29) := ⟨_, rfl⟩
  have hcZ := hc3.alloc (.cells #[.int .i64 (k : Int), .int .i64 (r1 : Int), .int .i64 (r2 : Int), .int .i64 (r3 : Int), .int .i64 z] 29)
  rw [← hZ] at hcZ
  have rC : Z.row? C = some #[.int .i64 (k : Int), .int .i64 (r1 : Int), .int .i64 (r2 : Int), .int .i64 (r3 : Int), .int .i64 z] := by rw [hZ]; exact row_alloc_at _ _ _ _ hC
  have rB : Z.row? B = some #[.int .i64 (k : Int), .int .i64 (rd : Int), .int .i64 (rs1 : Int), .int .i64 (rs2 : Int), .int .i64 (imm : Int)] := by rw [hcZ.row (row_lt HRB2.out) (by simp)]; exact HRB2.out
  have hBC : B ≠ C := by have := row_lt HRB2.out; have := hc3.size; omega
  have hCw : w.heap.size ≤ C := by have := HC2.out.size; have := hc3.size; omega
  have hBw : w.heap.size ≤ B := by have := HBB.out; omega
  obtain ⟨U, hU⟩ : ∃ U, U = Z.setCell ⟨C, 4, none⟩ (.int .i64 (im : Int)) := ⟨_, rfl⟩
  obtain ⟨T, hT⟩ : ∃ T, T = U.setCell ⟨B, 4, none⟩ (.int .i64 (imm : Int)) := ⟨_, rfl⟩
  have uC : U.row? C = some #[.int .i64 (k : Int), .int .i64 (r1 : Int), .int .i64 (r2 : Int), .int .i64 (r3 : Int), .int .i64 (im : Int)] := by rw [hU, row_setCell_same, rC]; rfl
  have uB : U.row? B = some #[.int .i64 (k : Int), .int .i64 (rd : Int), .int .i64 (rs1 : Int), .int .i64 (rs2 : Int), .int .i64 (imm : Int)] := by rw [hU, row_setCell_other _ _ _ _ (by simpa using hBC)]; exact rB
  have tC : T.row? C = some #[.int .i64 (k : Int), .int .i64 (r1 : Int), .int .i64 (r2 : Int), .int .i64 (r3 : Int), .int .i64 (im : Int)] := by rw [hT, row_setCell_other _ _ _ _ (by simpa using Ne.symm hBC)]; exact uC
  have tB : T.row? B = some #[.int .i64 (k : Int), .int .i64 (rd : Int), .int .i64 (rs1 : Int), .int .i64 (rs2 : Int), .int .i64 (imm : Int)] := by rw [hT, row_setCell_same, uB]; rfl
  have HCT : Hid (Chg [] w T) := Lib.hid (by rw [hT, hU]; exact ((HC2.out.trans hcZ).setCell (Or.inr hCw) _).setCell (Or.inr hBw) _)
  have z4 : Z.cell? ⟨C, 4, none⟩ = some (.int .i64 z) := by rw [row_cell rC]; rfl
  have b4 : U.cell? ⟨B, 4, none⟩ = some (.int .i64 (imm : Int)) := by rw [row_cell uB]; rfl
  have fC := row_free rC 4
  have fB := row_free uB 4
  have TB := Lib.hid tB
  have TC := Lib.hid tC
  have HZ := Lib.hid hZ
  have HU := Lib.hid hU
  have HT := Lib.hid hT
  have HCC := Lib.hid hC
  clear hz hc3 hZ hcZ rC rB hBC hCw hBw hU hT uC uB tC tB hC
  go_upto_region 19 with (refine wpList_store_new a29 _ _ rfl rfl rfl rfl rfl rfl rfl rfl ?_)
  rw [← HCC.out, ← HZ.out]
  go_upto_region 20 with (fail)
  rw [← HU.out]
  go_upto_region 21 with (fail)
  rw [← HT.out]
  clear z4 b4 fC fB
  refine wp_region_C (fun w' => w'.row? C = some #[.int .i64 (k : Int), .int .i64 (r1 : Int), .int .i64 (r2 : Int), .int .i64 (r3 : Int), .int .i64 (im : Int)] ∧ w'.row? B = some #[.int .i64 (k : Int), .int .i64 (rd : Int), .int .i64 (rs1 : Int), .int .i64 (rs2 : Int), .int .i64 (imm : Int)]) [(0, 0), (1, 1), (2, 1), (3, 0), (4, 0), (5, 0)] rfl (by kernel_rfl) ?hSC ?hTC
  case hSC => exact ⟨TC.out, TB.out⟩
  refine wpT_pureD (v := ?_) (some 183) rfl rfl (by rfl) (fun w' => ?_) ?_
  rotate_left
  · (go_simp; try with_reducible rfl)
  try simp only [Act.put, List.setIfInBounds_toArray, List.set_cons_zero, List.set_cons_succ]
  refine wpT_load_part a29 [.int .i64 (k : Int), .int .i64 (r1 : Int), .int .i64 (r2 : Int), .int .i64 (r3 : Int), .int .i64 (im : Int)] (some 184) _ rfl rfl rfl (by rfl) rfl rfl (fun w' hw j u hu => by rw [Nat.zero_add, row_cell hw.1]; simpa using hu) ?_
  try simp only [Act.put, List.setIfInBounds_toArray, List.set_cons_zero, List.set_cons_succ]
  refine wpT_load_part a29 [.int .i64 (k : Int), .int .i64 (rd : Int), .int .i64 (rs1 : Int), .int .i64 (rs2 : Int), .int .i64 (imm : Int)] (some 185) _ rfl rfl rfl (by rfl) rfl rfl (fun w' hw j u hu => by rw [Nat.zero_add, row_cell hw.2]; simpa using hu) ?_
  try simp only [Act.put, List.setIfInBounds_toArray, List.set_cons_zero, List.set_cons_succ]
  refine wpT_pureD (v := .bool p) (some 186) rfl rfl (by rfl) (fun w' => ?_) ?_
  · rw [HP.out]
    by_cases q1 : r1 = rd
    · subst q1
      by_cases q2 : r2 = rs1
      · subst q2
        by_cases q3 : r3 = rs2
        · subst q3
          by_cases q4 : im = imm
          · subst q4
            go_simp
          · have z1 : ((im : Int) == (imm : Int)) = false := natne _ _ q4
            go_simp
        · have z1 : ((r3 : Int) == (rs2 : Int)) = false := natne _ _ q3
          go_simp
      · have z1 : ((r2 : Int) == (rs1 : Int)) = false := natne _ _ q2
        go_simp
    · have z1 : ((r1 : Int) == (rd : Int)) = false := natne _ _ q1
      go_simp
  try simp only [Act.put, List.setIfInBounds_toArray, List.set_cons_zero, List.set_cons_succ]
  refine wpT_pureD (v := ?_) (some 2) rfl rfl (by rfl) (fun w' => ?_) ?_
  rotate_left
  · (go_simp; try with_reducible rfl)
  try simp only [Act.put, List.setIfInBounds_toArray, List.set_cons_zero, List.set_cons_succ]
  refine wpT_pureD (v := ?_) (some 3) rfl rfl (by rfl) (fun w' => ?_) ?_
  rotate_left
  · (go_simp; try with_reducible rfl)
  try simp only [Act.put, List.setIfInBounds_toArray, List.set_cons_zero, List.set_cons_succ]
  refine wpT_end ?_
  go_wp2
  go_ret2
  exact ⟨rfl, HCT.out.drew⟩
set_option maxRecDepth 100000 in
set_option maxHeartbeats 1600000 in
theorem renc_Z (k rd rs1 rs2 imm : Nat) (h1 : 1 ≤ k) (h2 : k < 57) (hl : frmL k = 90) (hrd : rd < 32) (hrs1 : rs1 < 32) (hrs2 : rs2 < 32) (hi : imm < 4294967296) (w : World) :
    Calls Tryd.prog 13 #[.agg #[.int .i64 (k : Int), .int .i64 (rd : Int), .int .i64 (rs1 : Int), .int .i64 (rs2 : Int), .int .i64 (imm : Int)]] w fun e w' => e = .returned (.tuple #[.int .i64 ((encR 90 (wrdC k) rd rs1 rs2 imm : Nat) : Int), .bool (decide (decN (encR 90 (wrdC k) rd rs1 rs2 imm) = ⟨k, rd, rs1, rs2, imm⟩))]) ∧ Chg [] w w' := by
  obtain ⟨hw32, hfit, _⟩ := de_Z k rd rs1 rs2 imm _ h1 h2 hl hrd hrs1 hrs2 hi rfl
  have HDK := Lib.hid (rdec_k k _ h1 h2 hw32 hfit)
  have hop := (dl_any _ k hw32 h1 h2 hfit).1
  obtain ⟨B, hB⟩ : ∃ B, B = w.heap.size := ⟨_, rfl⟩
  obtain ⟨V, hV⟩ : ∃ V, V = w.alloc (.cells #[.int .i64 (k : Int), .int .i64 (rd : Int), .int .i64 (rs1 : Int), .int .i64 (rs2 : Int), .int .i64 (imm : Int)] 29) := ⟨_, rfl⟩
  have hcV : Chg [] w V := by rw [hV]; exact (Chg.refl _ _).alloc _
  have rb : V.row? B = some #[.int .i64 (k : Int), .int .i64 (rd : Int), .int .i64 (rs1 : Int), .int .i64 (rs2 : Int), .int .i64 (imm : Int)] := by rw [hV]; exact row_alloc_at _ _ _ _ hB
  obtain ⟨L, hL⟩ : ∃ L, L = V.heap.size := ⟨_, rfl⟩
  have HLI := list_any V
  rw [← hL] at HLI
  have HLI := Lib.hid HLI
  have HCV := Lib.hid hcV
  have HRB := Lib.hid rb
  have HVV := Lib.hid hV
  have HBB := Lib.hid hB
  obtain ⟨cw, hcw⟩ : ∃ W, W = wrdC k := ⟨_, rfl⟩
  have hc32 := (letK k h2 h1).2.1
  rw [← hcw] at hc32 HDK hop ⊢
  have HCW := Lib.hid hcw
  have HK2 := Lib.hid h2
  have HL := Lib.hid hl
  have g1 : decide ((k : Int) < 1) = false := by simp; omega
  have g2 : decide (57 ≤ (k : Int)) = false := by simp; omega
  have g3 : decide ((rd : Int) < 0) = false := by simp
  have g4 : decide (31 < (rd : Int)) = false := by simp; omega
  have g5 : decide ((rs1 : Int) < 0) = false := by simp
  have g6 : decide (31 < (rs1 : Int)) = false := by simp; omega
  have g7 : decide ((rs2 : Int) < 0) = false := by simp
  have g8 : decide (31 < (rs2 : Int)) = false := by simp; omega
  have hkI : (k : Int) < 57 := by omega
  have n2 : bits .and .i64 (imm : Int) 4294967295 = (imm : Int) := by rw [and64m]; omega
  have m1 : bits .and .i64 (imm : Int) 4095 = ((imm % 4096 : Nat) : Int) := and64l imm 4095 12 hi rfl (by decide)
  obtain ⟨q, hq⟩ : ∃ q, q = imm % 4096 := ⟨_, rfl⟩
  rw [← hq] at m1
  have hq32 : q < 4096 := by omega
  have l1 : rd * 128 < 4294967296 := by omega
  have e1 : bits .or .i64 (cw : Int) ((rd : Int) * 128) = ((cw ||| rd * 128 : Nat) : Int) := by
    rw [show (rd : Int) * 128 = ((rd * 128 : Nat) : Int) by omega]; exact or64 _ _ hc32 l1
  have v1 : wrap64 ((rd : Int) * 128) = (rd : Int) * 128 := IntWalk.wrap64_in _ ⟨by omega, by omega⟩
  have hb1 := or_lt hc32 l1
  obtain ⟨d1, hd1⟩ : ∃ d, d = cw ||| rd * 128 := ⟨_, rfl⟩
  rw [← hd1] at e1 hb1
  have l2 : rs1 * 32768 < 4294967296 := by omega
  have e2 : bits .or .i64 (d1 : Int) ((rs1 : Int) * 32768) = ((d1 ||| rs1 * 32768 : Nat) : Int) := by
    rw [show (rs1 : Int) * 32768 = ((rs1 * 32768 : Nat) : Int) by omega]; exact or64 _ _ hb1 l2
  have v2 : wrap64 ((rs1 : Int) * 32768) = (rs1 : Int) * 32768 := IntWalk.wrap64_in _ ⟨by omega, by omega⟩
  have hb2 := or_lt hb1 l2
  obtain ⟨d2, hd2⟩ : ∃ d, d = d1 ||| rs1 * 32768 := ⟨_, rfl⟩
  rw [← hd2] at e2 hb2
  have l3 : q * 1048576 < 4294967296 := by omega
  have e3 : bits .or .i64 (d2 : Int) ((q : Int) * 1048576) = ((d2 ||| q * 1048576 : Nat) : Int) := by
    rw [show (q : Int) * 1048576 = ((q * 1048576 : Nat) : Int) by omega]; exact or64 _ _ hb2 l3
  have v3 : wrap64 ((q : Int) * 1048576) = (q : Int) * 1048576 := IntWalk.wrap64_in _ ⟨by omega, by omega⟩
  have hb3 := or_lt hb2 l3
  obtain ⟨d3, hd3⟩ : ∃ d, d = d2 ||| q * 1048576 := ⟨_, rfl⟩
  rw [← hd3] at e3 hb3
  obtain ⟨R, hR⟩ : ∃ R, R = d3 := ⟨_, rfl⟩
  have hres : encR 90 cw rd rs1 rs2 imm = R := by rw [hR, hd3, hd2, hd1, hq]; rfl
  rw [hres] at HDK hop ⊢
  rw [← hR] at e3
  have HII := Lib.hid hi
  obtain ⟨i, hi5⟩ : ∃ i, i = decN R := ⟨_, rfl⟩
  rw [← hi5] at HDK hop ⊢
  obtain ⟨io, r1, r2, r3, im⟩ := i
  obtain rfl : k = io := hop.symm
  obtain ⟨p, hp⟩ : ∃ p, p = decide ((⟨k, r1, r2, r3, im⟩ : I5) = ⟨k, rd, rs1, rs2, imm⟩) := ⟨_, rfl⟩
  rw [← hp]
  have HP := Lib.hid hp
  clear hi5 hp hres hcV rb hV hB hL hcw hl h2 h1 hw32 hfit hi hrd hrs1 hrs2 hd1 l1 hb1 hd2 l2 hb2 hd3 l3 hb3 hR hq hq32 hc32
  go_enter Tryd.func13, Tryd.ntmps13
  go_upto_region 1 with (fail)
  rw [← HBB.out, ← HVV.out]
  go_wp2_with fail
  refine HLI.out.mono ?_
  rintro e w1 ⟨rfl, hrow, hc1⟩
  have HC1 := Lib.hid (HCV.out.trans hc1)
  have hrb1 : w1.row? B = some #[.int .i64 (k : Int), .int .i64 (rd : Int), .int .i64 (rs1 : Int), .int .i64 (rs2 : Int), .int .i64 (imm : Int)] := by rw [hc1.row (row_lt HRB.out) (by simp)]; exact HRB.out
  have c0 : w1.cell? ⟨B, 0, none⟩ = some (.int .i64 (k : Int)) := by rw [row_cell hrb1]; rfl
  have c1 : w1.cell? ⟨B, 1, none⟩ = some (.int .i64 (rd : Int)) := by rw [row_cell hrb1]; rfl
  have c2 : w1.cell? ⟨B, 2, none⟩ = some (.int .i64 (rs1 : Int)) := by rw [row_cell hrb1]; rfl
  have c3 : w1.cell? ⟨B, 3, none⟩ = some (.int .i64 (rs2 : Int)) := by rw [row_cell hrb1]; rfl
  have c4 : w1.cell? ⟨B, 4, none⟩ = some (.int .i64 (imm : Int)) := by rw [row_cell hrb1]; rfl
  have cf : w1.cell? ⟨L, k * 2, none⟩ = some (.string ⟨#[90]⟩) := by rw [row_cell hrow, show (⟨#[90]⟩ : ByteArray) = strB (frmL k) by rw [HL.out]; rfl]; simpa using listA_frm k HK2.out
  have cg : w1.cell? ⟨L, k * 2 + 1, none⟩ = some (.int .i64 (cw : Int)) := by rw [row_cell hrow, HCW.out]; simpa using listA_word k HK2.out
  have HRB1 := Lib.hid hrb1
  clear hrow hc1 hrb1 HLI HRB HCV
  have HRB2 := HRB1
  have HC2 := HC1
  go_wp2_with fail
  refine (HDK.out _).mono ?_
  rintro e w3 ⟨z, hz, rfl, hc3⟩
  have n1 : bits .and .i64 z 4294967295 = (im : Int) := by rw [and64m, hz]
  obtain ⟨C, hC⟩ : ∃ C, C = w3.heap.size := ⟨_, rfl⟩
  obtain ⟨Z, hZ⟩ : ∃ Z, Z = w3.alloc (.cells #[.int .i64 (k : Int), .int .i64 (r1 : Int), .int .i64 (r2 : Int), .int .i64 (r3 : Int), .int .i64 z] 29) := ⟨_, rfl⟩
  have hcZ := hc3.alloc (.cells #[.int .i64 (k : Int), .int .i64 (r1 : Int), .int .i64 (r2 : Int), .int .i64 (r3 : Int), .int .i64 z] 29)
  rw [← hZ] at hcZ
  have rC : Z.row? C = some #[.int .i64 (k : Int), .int .i64 (r1 : Int), .int .i64 (r2 : Int), .int .i64 (r3 : Int), .int .i64 z] := by rw [hZ]; exact row_alloc_at _ _ _ _ hC
  have rB : Z.row? B = some #[.int .i64 (k : Int), .int .i64 (rd : Int), .int .i64 (rs1 : Int), .int .i64 (rs2 : Int), .int .i64 (imm : Int)] := by rw [hcZ.row (row_lt HRB2.out) (by simp)]; exact HRB2.out
  have hBC : B ≠ C := by have := row_lt HRB2.out; have := hc3.size; omega
  have hCw : w.heap.size ≤ C := by have := HC2.out.size; have := hc3.size; omega
  have hBw : w.heap.size ≤ B := by have := HBB.out; omega
  obtain ⟨U, hU⟩ : ∃ U, U = Z.setCell ⟨C, 4, none⟩ (.int .i64 (im : Int)) := ⟨_, rfl⟩
  obtain ⟨T, hT⟩ : ∃ T, T = U.setCell ⟨B, 4, none⟩ (.int .i64 (imm : Int)) := ⟨_, rfl⟩
  have uC : U.row? C = some #[.int .i64 (k : Int), .int .i64 (r1 : Int), .int .i64 (r2 : Int), .int .i64 (r3 : Int), .int .i64 (im : Int)] := by rw [hU, row_setCell_same, rC]; rfl
  have uB : U.row? B = some #[.int .i64 (k : Int), .int .i64 (rd : Int), .int .i64 (rs1 : Int), .int .i64 (rs2 : Int), .int .i64 (imm : Int)] := by rw [hU, row_setCell_other _ _ _ _ (by simpa using hBC)]; exact rB
  have tC : T.row? C = some #[.int .i64 (k : Int), .int .i64 (r1 : Int), .int .i64 (r2 : Int), .int .i64 (r3 : Int), .int .i64 (im : Int)] := by rw [hT, row_setCell_other _ _ _ _ (by simpa using Ne.symm hBC)]; exact uC
  have tB : T.row? B = some #[.int .i64 (k : Int), .int .i64 (rd : Int), .int .i64 (rs1 : Int), .int .i64 (rs2 : Int), .int .i64 (imm : Int)] := by rw [hT, row_setCell_same, uB]; rfl
  have HCT : Hid (Chg [] w T) := Lib.hid (by rw [hT, hU]; exact ((HC2.out.trans hcZ).setCell (Or.inr hCw) _).setCell (Or.inr hBw) _)
  have z4 : Z.cell? ⟨C, 4, none⟩ = some (.int .i64 z) := by rw [row_cell rC]; rfl
  have b4 : U.cell? ⟨B, 4, none⟩ = some (.int .i64 (imm : Int)) := by rw [row_cell uB]; rfl
  have fC := row_free rC 4
  have fB := row_free uB 4
  have TB := Lib.hid tB
  have TC := Lib.hid tC
  have HZ := Lib.hid hZ
  have HU := Lib.hid hU
  have HT := Lib.hid hT
  have HCC := Lib.hid hC
  clear hz hc3 hZ hcZ rC rB hBC hCw hBw hU hT uC uB tC tB hC
  go_upto_region 19 with (refine wpList_store_new a29 _ _ rfl rfl rfl rfl rfl rfl rfl rfl ?_)
  rw [← HCC.out, ← HZ.out]
  go_upto_region 20 with (fail)
  rw [← HU.out]
  go_upto_region 21 with (fail)
  rw [← HT.out]
  clear z4 b4 fC fB
  refine wp_region_C (fun w' => w'.row? C = some #[.int .i64 (k : Int), .int .i64 (r1 : Int), .int .i64 (r2 : Int), .int .i64 (r3 : Int), .int .i64 (im : Int)] ∧ w'.row? B = some #[.int .i64 (k : Int), .int .i64 (rd : Int), .int .i64 (rs1 : Int), .int .i64 (rs2 : Int), .int .i64 (imm : Int)]) [(0, 0), (1, 1), (2, 1), (3, 0), (4, 0), (5, 0)] rfl (by kernel_rfl) ?hSZ ?hTZ
  case hSZ => exact ⟨TC.out, TB.out⟩
  refine wpT_pureD (v := ?_) (some 183) rfl rfl (by rfl) (fun w' => ?_) ?_
  rotate_left
  · (go_simp; try with_reducible rfl)
  try simp only [Act.put, List.setIfInBounds_toArray, List.set_cons_zero, List.set_cons_succ]
  refine wpT_load_part a29 [.int .i64 (k : Int), .int .i64 (r1 : Int), .int .i64 (r2 : Int), .int .i64 (r3 : Int), .int .i64 (im : Int)] (some 184) _ rfl rfl rfl (by rfl) rfl rfl (fun w' hw j u hu => by rw [Nat.zero_add, row_cell hw.1]; simpa using hu) ?_
  try simp only [Act.put, List.setIfInBounds_toArray, List.set_cons_zero, List.set_cons_succ]
  refine wpT_load_part a29 [.int .i64 (k : Int), .int .i64 (rd : Int), .int .i64 (rs1 : Int), .int .i64 (rs2 : Int), .int .i64 (imm : Int)] (some 185) _ rfl rfl rfl (by rfl) rfl rfl (fun w' hw j u hu => by rw [Nat.zero_add, row_cell hw.2]; simpa using hu) ?_
  try simp only [Act.put, List.setIfInBounds_toArray, List.set_cons_zero, List.set_cons_succ]
  refine wpT_pureD (v := .bool p) (some 186) rfl rfl (by rfl) (fun w' => ?_) ?_
  · rw [HP.out]
    by_cases q1 : r1 = rd
    · subst q1
      by_cases q2 : r2 = rs1
      · subst q2
        by_cases q3 : r3 = rs2
        · subst q3
          by_cases q4 : im = imm
          · subst q4
            go_simp
          · have z1 : ((im : Int) == (imm : Int)) = false := natne _ _ q4
            go_simp
        · have z1 : ((r3 : Int) == (rs2 : Int)) = false := natne _ _ q3
          go_simp
      · have z1 : ((r2 : Int) == (rs1 : Int)) = false := natne _ _ q2
        go_simp
    · have z1 : ((r1 : Int) == (rd : Int)) = false := natne _ _ q1
      go_simp
  try simp only [Act.put, List.setIfInBounds_toArray, List.set_cons_zero, List.set_cons_succ]
  refine wpT_pureD (v := ?_) (some 2) rfl rfl (by rfl) (fun w' => ?_) ?_
  rotate_left
  · (go_simp; try with_reducible rfl)
  try simp only [Act.put, List.setIfInBounds_toArray, List.set_cons_zero, List.set_cons_succ]
  refine wpT_pureD (v := ?_) (some 3) rfl rfl (by rfl) (fun w' => ?_) ?_
  rotate_left
  · (go_simp; try with_reducible rfl)
  try simp only [Act.put, List.setIfInBounds_toArray, List.set_cons_zero, List.set_cons_succ]
  refine wpT_end ?_
  go_wp2
  go_ret2
  exact ⟨rfl, HCT.out.drew⟩
set_option maxRecDepth 100000 in
set_option maxHeartbeats 1600000 in
theorem renc_F (k rd rs1 rs2 imm : Nat) (h1 : 1 ≤ k) (h2 : k < 57) (hl : frmL k = 70) (hrd : rd < 32) (hrs1 : rs1 < 32) (hrs2 : rs2 < 32) (hi : imm < 4294967296) (w : World) :
    Calls Tryd.prog 13 #[.agg #[.int .i64 (k : Int), .int .i64 (rd : Int), .int .i64 (rs1 : Int), .int .i64 (rs2 : Int), .int .i64 (imm : Int)]] w fun e w' => e = .returned (.tuple #[.int .i64 ((encR 70 (wrdC k) rd rs1 rs2 imm : Nat) : Int), .bool (decide (decN (encR 70 (wrdC k) rd rs1 rs2 imm) = ⟨k, rd, rs1, rs2, imm⟩))]) ∧ Chg [] w w' := by
  obtain ⟨hw32, hfit, _⟩ := de_F k rd rs1 rs2 imm _ h1 h2 hl hrd hrs1 hrs2 hi rfl
  have HDK := Lib.hid (rdec_k k _ h1 h2 hw32 hfit)
  have hop := (dl_any _ k hw32 h1 h2 hfit).1
  obtain ⟨B, hB⟩ : ∃ B, B = w.heap.size := ⟨_, rfl⟩
  obtain ⟨V, hV⟩ : ∃ V, V = w.alloc (.cells #[.int .i64 (k : Int), .int .i64 (rd : Int), .int .i64 (rs1 : Int), .int .i64 (rs2 : Int), .int .i64 (imm : Int)] 29) := ⟨_, rfl⟩
  have hcV : Chg [] w V := by rw [hV]; exact (Chg.refl _ _).alloc _
  have rb : V.row? B = some #[.int .i64 (k : Int), .int .i64 (rd : Int), .int .i64 (rs1 : Int), .int .i64 (rs2 : Int), .int .i64 (imm : Int)] := by rw [hV]; exact row_alloc_at _ _ _ _ hB
  obtain ⟨L, hL⟩ : ∃ L, L = V.heap.size := ⟨_, rfl⟩
  have HLI := list_any V
  rw [← hL] at HLI
  have HLI := Lib.hid HLI
  have HCV := Lib.hid hcV
  have HRB := Lib.hid rb
  have HVV := Lib.hid hV
  have HBB := Lib.hid hB
  obtain ⟨cw, hcw⟩ : ∃ W, W = wrdC k := ⟨_, rfl⟩
  have hc32 := (letK k h2 h1).2.1
  rw [← hcw] at hc32 HDK hop ⊢
  have HCW := Lib.hid hcw
  have HK2 := Lib.hid h2
  have HL := Lib.hid hl
  have g1 : decide ((k : Int) < 1) = false := by simp; omega
  have g2 : decide (57 ≤ (k : Int)) = false := by simp; omega
  have g3 : decide ((rd : Int) < 0) = false := by simp
  have g4 : decide (31 < (rd : Int)) = false := by simp; omega
  have g5 : decide ((rs1 : Int) < 0) = false := by simp
  have g6 : decide (31 < (rs1 : Int)) = false := by simp; omega
  have g7 : decide ((rs2 : Int) < 0) = false := by simp
  have g8 : decide (31 < (rs2 : Int)) = false := by simp; omega
  have hkI : (k : Int) < 57 := by omega
  have n2 : bits .and .i64 (imm : Int) 4294967295 = (imm : Int) := by rw [and64m]; omega
  obtain ⟨R, hR⟩ : ∃ R, R = cw := ⟨_, rfl⟩
  have hres : encR 70 cw rd rs1 rs2 imm = R := by rw [hR]; rfl
  rw [hres] at HDK hop ⊢
  subst hR
  have HII := Lib.hid hi
  obtain ⟨i, hi5⟩ : ∃ i, i = decN R := ⟨_, rfl⟩
  rw [← hi5] at HDK hop ⊢
  obtain ⟨io, r1, r2, r3, im⟩ := i
  obtain rfl : k = io := hop.symm
  obtain ⟨p, hp⟩ : ∃ p, p = decide ((⟨k, r1, r2, r3, im⟩ : I5) = ⟨k, rd, rs1, rs2, imm⟩) := ⟨_, rfl⟩
  rw [← hp]
  have HP := Lib.hid hp
  clear hi5 hp hres hcV rb hV hB hL hcw hl h2 h1 hw32 hfit hi hrd hrs1 hrs2    hc32
  go_enter Tryd.func13, Tryd.ntmps13
  go_upto_region 1 with (fail)
  rw [← HBB.out, ← HVV.out]
  go_wp2_with fail
  refine HLI.out.mono ?_
  rintro e w1 ⟨rfl, hrow, hc1⟩
  have HC1 := Lib.hid (HCV.out.trans hc1)
  have hrb1 : w1.row? B = some #[.int .i64 (k : Int), .int .i64 (rd : Int), .int .i64 (rs1 : Int), .int .i64 (rs2 : Int), .int .i64 (imm : Int)] := by rw [hc1.row (row_lt HRB.out) (by simp)]; exact HRB.out
  have c0 : w1.cell? ⟨B, 0, none⟩ = some (.int .i64 (k : Int)) := by rw [row_cell hrb1]; rfl
  have c1 : w1.cell? ⟨B, 1, none⟩ = some (.int .i64 (rd : Int)) := by rw [row_cell hrb1]; rfl
  have c2 : w1.cell? ⟨B, 2, none⟩ = some (.int .i64 (rs1 : Int)) := by rw [row_cell hrb1]; rfl
  have c3 : w1.cell? ⟨B, 3, none⟩ = some (.int .i64 (rs2 : Int)) := by rw [row_cell hrb1]; rfl
  have c4 : w1.cell? ⟨B, 4, none⟩ = some (.int .i64 (imm : Int)) := by rw [row_cell hrb1]; rfl
  have cf : w1.cell? ⟨L, k * 2, none⟩ = some (.string ⟨#[70]⟩) := by rw [row_cell hrow, show (⟨#[70]⟩ : ByteArray) = strB (frmL k) by rw [HL.out]; rfl]; simpa using listA_frm k HK2.out
  have cg : w1.cell? ⟨L, k * 2 + 1, none⟩ = some (.int .i64 (R : Int)) := by rw [row_cell hrow, HCW.out]; simpa using listA_word k HK2.out
  have HRB1 := Lib.hid hrb1
  clear hrow hc1 hrb1 HLI HRB HCV
  have HRB2 := HRB1
  have HC2 := HC1
  go_wp2_with fail
  refine (HDK.out _).mono ?_
  rintro e w3 ⟨z, hz, rfl, hc3⟩
  have n1 : bits .and .i64 z 4294967295 = (im : Int) := by rw [and64m, hz]
  obtain ⟨C, hC⟩ : ∃ C, C = w3.heap.size := ⟨_, rfl⟩
  obtain ⟨Z, hZ⟩ : ∃ Z, Z = w3.alloc (.cells #[.int .i64 (k : Int), .int .i64 (r1 : Int), .int .i64 (r2 : Int), .int .i64 (r3 : Int), .int .i64 z] 29) := ⟨_, rfl⟩
  have hcZ := hc3.alloc (.cells #[.int .i64 (k : Int), .int .i64 (r1 : Int), .int .i64 (r2 : Int), .int .i64 (r3 : Int), .int .i64 z] 29)
  rw [← hZ] at hcZ
  have rC : Z.row? C = some #[.int .i64 (k : Int), .int .i64 (r1 : Int), .int .i64 (r2 : Int), .int .i64 (r3 : Int), .int .i64 z] := by rw [hZ]; exact row_alloc_at _ _ _ _ hC
  have rB : Z.row? B = some #[.int .i64 (k : Int), .int .i64 (rd : Int), .int .i64 (rs1 : Int), .int .i64 (rs2 : Int), .int .i64 (imm : Int)] := by rw [hcZ.row (row_lt HRB2.out) (by simp)]; exact HRB2.out
  have hBC : B ≠ C := by have := row_lt HRB2.out; have := hc3.size; omega
  have hCw : w.heap.size ≤ C := by have := HC2.out.size; have := hc3.size; omega
  have hBw : w.heap.size ≤ B := by have := HBB.out; omega
  obtain ⟨U, hU⟩ : ∃ U, U = Z.setCell ⟨C, 4, none⟩ (.int .i64 (im : Int)) := ⟨_, rfl⟩
  obtain ⟨T, hT⟩ : ∃ T, T = U.setCell ⟨B, 4, none⟩ (.int .i64 (imm : Int)) := ⟨_, rfl⟩
  have uC : U.row? C = some #[.int .i64 (k : Int), .int .i64 (r1 : Int), .int .i64 (r2 : Int), .int .i64 (r3 : Int), .int .i64 (im : Int)] := by rw [hU, row_setCell_same, rC]; rfl
  have uB : U.row? B = some #[.int .i64 (k : Int), .int .i64 (rd : Int), .int .i64 (rs1 : Int), .int .i64 (rs2 : Int), .int .i64 (imm : Int)] := by rw [hU, row_setCell_other _ _ _ _ (by simpa using hBC)]; exact rB
  have tC : T.row? C = some #[.int .i64 (k : Int), .int .i64 (r1 : Int), .int .i64 (r2 : Int), .int .i64 (r3 : Int), .int .i64 (im : Int)] := by rw [hT, row_setCell_other _ _ _ _ (by simpa using Ne.symm hBC)]; exact uC
  have tB : T.row? B = some #[.int .i64 (k : Int), .int .i64 (rd : Int), .int .i64 (rs1 : Int), .int .i64 (rs2 : Int), .int .i64 (imm : Int)] := by rw [hT, row_setCell_same, uB]; rfl
  have HCT : Hid (Chg [] w T) := Lib.hid (by rw [hT, hU]; exact ((HC2.out.trans hcZ).setCell (Or.inr hCw) _).setCell (Or.inr hBw) _)
  have z4 : Z.cell? ⟨C, 4, none⟩ = some (.int .i64 z) := by rw [row_cell rC]; rfl
  have b4 : U.cell? ⟨B, 4, none⟩ = some (.int .i64 (imm : Int)) := by rw [row_cell uB]; rfl
  have fC := row_free rC 4
  have fB := row_free uB 4
  have TB := Lib.hid tB
  have TC := Lib.hid tC
  have HZ := Lib.hid hZ
  have HU := Lib.hid hU
  have HT := Lib.hid hT
  have HCC := Lib.hid hC
  clear hz hc3 hZ hcZ rC rB hBC hCw hBw hU hT uC uB tC tB hC
  go_upto_region 19 with (refine wpList_store_new a29 _ _ rfl rfl rfl rfl rfl rfl rfl rfl ?_)
  rw [← HCC.out, ← HZ.out]
  go_upto_region 20 with (fail)
  rw [← HU.out]
  go_upto_region 21 with (fail)
  rw [← HT.out]
  clear z4 b4 fC fB
  refine wp_region_C (fun w' => w'.row? C = some #[.int .i64 (k : Int), .int .i64 (r1 : Int), .int .i64 (r2 : Int), .int .i64 (r3 : Int), .int .i64 (im : Int)] ∧ w'.row? B = some #[.int .i64 (k : Int), .int .i64 (rd : Int), .int .i64 (rs1 : Int), .int .i64 (rs2 : Int), .int .i64 (imm : Int)]) [(0, 0), (1, 1), (2, 1), (3, 0), (4, 0), (5, 0)] rfl (by kernel_rfl) ?hSF ?hTF
  case hSF => exact ⟨TC.out, TB.out⟩
  refine wpT_pureD (v := ?_) (some 183) rfl rfl (by rfl) (fun w' => ?_) ?_
  rotate_left
  · (go_simp; try with_reducible rfl)
  try simp only [Act.put, List.setIfInBounds_toArray, List.set_cons_zero, List.set_cons_succ]
  refine wpT_load_part a29 [.int .i64 (k : Int), .int .i64 (r1 : Int), .int .i64 (r2 : Int), .int .i64 (r3 : Int), .int .i64 (im : Int)] (some 184) _ rfl rfl rfl (by rfl) rfl rfl (fun w' hw j u hu => by rw [Nat.zero_add, row_cell hw.1]; simpa using hu) ?_
  try simp only [Act.put, List.setIfInBounds_toArray, List.set_cons_zero, List.set_cons_succ]
  refine wpT_load_part a29 [.int .i64 (k : Int), .int .i64 (rd : Int), .int .i64 (rs1 : Int), .int .i64 (rs2 : Int), .int .i64 (imm : Int)] (some 185) _ rfl rfl rfl (by rfl) rfl rfl (fun w' hw j u hu => by rw [Nat.zero_add, row_cell hw.2]; simpa using hu) ?_
  try simp only [Act.put, List.setIfInBounds_toArray, List.set_cons_zero, List.set_cons_succ]
  refine wpT_pureD (v := .bool p) (some 186) rfl rfl (by rfl) (fun w' => ?_) ?_
  · rw [HP.out]
    by_cases q1 : r1 = rd
    · subst q1
      by_cases q2 : r2 = rs1
      · subst q2
        by_cases q3 : r3 = rs2
        · subst q3
          by_cases q4 : im = imm
          · subst q4
            go_simp
          · have z1 : ((im : Int) == (imm : Int)) = false := natne _ _ q4
            go_simp
        · have z1 : ((r3 : Int) == (rs2 : Int)) = false := natne _ _ q3
          go_simp
      · have z1 : ((r2 : Int) == (rs1 : Int)) = false := natne _ _ q2
        go_simp
    · have z1 : ((r1 : Int) == (rd : Int)) = false := natne _ _ q1
      go_simp
  try simp only [Act.put, List.setIfInBounds_toArray, List.set_cons_zero, List.set_cons_succ]
  refine wpT_pureD (v := ?_) (some 2) rfl rfl (by rfl) (fun w' => ?_) ?_
  rotate_left
  · (go_simp; try with_reducible rfl)
  try simp only [Act.put, List.setIfInBounds_toArray, List.set_cons_zero, List.set_cons_succ]
  refine wpT_pureD (v := ?_) (some 3) rfl rfl (by rfl) (fun w' => ?_) ?_
  rotate_left
  · (go_simp; try with_reducible rfl)
  try simp only [Act.put, List.setIfInBounds_toArray, List.set_cons_zero, List.set_cons_succ]
  refine wpT_end ?_
  go_wp2
  go_ret2
  exact ⟨rfl, HCT.out.drew⟩
end Go.Proofs.L
