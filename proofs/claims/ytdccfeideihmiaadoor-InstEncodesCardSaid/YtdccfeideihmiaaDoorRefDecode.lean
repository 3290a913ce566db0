/- Proved here: lemmas and contracts (RefDecode) for the laws of this seat, for all values of the stated types; no further condition. -/
import Derived.Test.YtdccfeideihmiaaDoorDecLaw
open Go Go.RowKit Go.Lib
namespace Go.Proofs.L
theorem frm_letter : ∀ k, k < 57 → 1 ≤ k → (frmL k = 85 ∨ frmL k = 74 ∨ frmL k = 73 ∨ frmL k = 66 ∨ frmL k = 83 ∨ frmL k = 82 ∨ frmL k = 84 ∨ frmL k = 78 ∨ frmL k = 67 ∨ frmL k = 90 ∨ frmL k = 70) := by decide
theorem listA_frm (k : Nat) (h : k < 57) : listA[k * 2]? = some (.string (strB (frmL k))) := by
  unfold listA frmL
  have key : ∀ (l : List (Nat × Nat)) (i : Nat), (l.flatMap fun p => [Value.string (strB p.1), .int .i64 (p.2 : Int)])[i * 2]? = (l[i]?).map fun p => .string (strB p.1) := by
    intro l
    induction l with
    | nil => intro i; simp
    | cons a l ih =>
      intro i
      cases i with
      | zero => simp
      | succ i =>
        rw [List.flatMap_cons, show (i + 1) * 2 = i * 2 + 2 by omega]
        simpa using ih i
  rw [key, List.getD_eq_getElem?_getD]
  have : k < opsL.length := h
  rw [List.getElem?_eq_getElem this]; rfl

theorem rmask_any (c : Nat) (h : c = 85 ∨ c = 74 ∨ c = 73 ∨ c = 66 ∨ c = 83 ∨ c = 82 ∨ c = 84 ∨ c = 78 ∨ c = 67 ∨ c = 90 ∨ c = 70) (w : World) : Calls Tryd.prog 32 #[.string (strB c)] w fun e w' => e = .returned (.int .i64 (maskN c : Int)) ∧ w' = w := by
  rcases h with rfl | rfl | rfl | rfl | rfl | rfl | rfl | rfl | rfl | rfl | rfl
  · exact rmask_U w
  · exact rmask_J w
  · exact rmask_I w
  · exact rmask_B w
  · exact rmask_S w
  · exact rmask_R w
  · exact rmask_T w
  · exact rmask_N w
  · exact rmask_C w
  · exact rmask_Z w
  · exact rmask_F w

theorem rimm_any (c x : Nat) (hx : x < 4294967296) (h : c = 85 ∨ c = 74 ∨ c = 73 ∨ c = 66 ∨ c = 83 ∨ c = 82 ∨ c = 84 ∨ c = 78 ∨ c = 67 ∨ c = 90 ∨ c = 70) (w : World) : Calls Tryd.prog 26 #[.string (strB c), .int .i64 (x : Int)] w fun e w' => e = .returned (.int .i64 (immL c x)) ∧ Chg [] w w' := by
  rcases h with rfl | rfl | rfl | rfl | rfl | rfl | rfl | rfl | rfl | rfl | rfl
  · exact (rimm_U x hx w).mono fun e w' h => ⟨h.1, by rw [h.2]; exact Chg.refl _ _⟩
  · exact rimm_J x hx w
  · exact rimm_I x hx w
  · exact rimm_B x hx w
  · exact rimm_S x hx w
  · exact (rimm_R _ w).mono fun e w' h => ⟨h.1, by rw [h.2]; exact Chg.refl _ _⟩
  · exact rimm_T x hx w
  · exact (rimm_N _ w).mono fun e w' h => ⟨h.1, by rw [h.2]; exact Chg.refl _ _⟩
  · exact rimm_C x hx w
  · exact rimm_Z x hx w
  · exact (rimm_F _ w).mono fun e w' h => ⟨h.1, by rw [h.2]; exact Chg.refl _ _⟩

theorem maskN_lt (c : Nat) : maskN c < 4294967296 := by unfold maskN; repeat' split
                                                        all_goals omega
/-- what the document's Decode gives back -/
def resA (k x : Nat) : Array Value := #[.int .i64 (k : Int), .int .i64 ((if hasRd (frmL k) then rdN x else 0 : Nat) : Int), .int .i64 ((if hasRs1 (frmL k) then rs1N x else 0 : Nat) : Int), .int .i64 ((if hasRs2 (frmL k) then rs2N x else 0 : Nat) : Int), .int .i64 (immL (frmL k) x)]
def zeroA : Array Value := #[.int .i64 0, .int .i64 0, .int .i64 0, .int .i64 0, .int .i64 0]
def RdecQ (x : Nat) (w : World) (e : Ending) (w' : World) : Prop := ((∃ k, 1 ≤ k ∧ k < 57 ∧ fitsK x k ∧ e = .returned (.agg (resA k x))) ∨ ((∀ k, 1 ≤ k → k < 57 → ¬ fitsK x k) ∧ e = .returned (.agg zeroA))) ∧ Chg [] w w'
theorem rdN_i (x : Nat) : ((rdN x : Nat) : Int) = (x : Int) / 128 % 32 := by unfold rdN; omega
theorem rs1N_i (x : Nat) : ((rs1N x : Nat) : Int) = (x : Int) / 32768 % 32 := by unfold rs1N; omega
theorem rs2N_i (x : Nat) : ((rs2N x : Nat) : Int) = (x : Int) / 1048576 % 32 := by unfold rs2N; omega
theorem a29 : aggT Tryd.prog 29 5 := aggT_of (by kernel_rfl)
set_option maxRecDepth 100000 in
set_option maxHeartbeats 6400000 in
theorem rdec_any (x : Nat) (hx : x < 4294967296) (w : World) : Calls Tryd.prog 11 #[.int .i64 (x : Int)] w (RdecQ x w) := by
  obtain ⟨R, hR⟩ : ∃ R, R = w.heap.size := ⟨_, rfl⟩
  obtain ⟨V, hV⟩ : ∃ V, V = w.alloc (.cells zeroA 29) := ⟨_, rfl⟩
  have hcV : Chg [] w V := by rw [hV]; exact (Chg.refl _ _).alloc _
  have hrV : V.row? R = some zeroA := by rw [hV]; exact row_alloc_at _ _ _ _ hR
  have hlr : R < V.heap.size := row_lt hrV
  obtain ⟨B, hB⟩ : ∃ B, B = V.heap.size := ⟨_, rfl⟩
  have HLI := list_any V
  rw [← hB] at HLI
  have HLI := Lib.hid HLI
  have HRV := Lib.hid hrV
  have HCV := Lib.hid hcV
  have HRB : Hid (R < B) := Lib.hid (by omega)
  have HX := Lib.hid hx
  have HRW : Hid (w.heap.size ≤ R) := Lib.hid (by omega)
  unfold zeroA at hV
  have HVV := Lib.hid hV
  have HRR := Lib.hid hR
  clear hV hR hrV hcV hlr hB hx
  go_enter Tryd.func11, Tryd.ntmps11
  go_upto_region 1 with (fail)
  rw [← HRR.out, ← HVV.out]
  clear HVV
  go_wp2_with fail
  refine HLI.out.mono ?_
  rintro e w1 ⟨rfl, hrow, hc1⟩
  have HC1 := Lib.hid (HCV.out.trans hc1)
  have HR1 : Hid (w1.row? R = some zeroA) := Lib.hid (by rw [hc1.row (row_lt HRV.out) (by simp)]; exact HRV.out)
  have HW1 := Lib.hid hrow
  clear hrow hc1 HLI HRV HCV
  go_wp2_with fail
  go_loopw [4, 5, 6] (fun i _ _ wr => ∃ k : Nat, 1 ≤ k ∧ k ≤ 57 ∧ i = .int .i64 k ∧ Chg [] w1 wr ∧ ∀ j, 1 ≤ j → j < k → ¬ fitsK x j) (fun i _ _ _ => 57 - (intOf i).toNat)
  case atStart => exact ⟨1, by omega, by omega, rfl, Chg.refl _ _, fun j h1 h2 => by omega⟩
  case round =>
    obtain ⟨k, hk1, hk, rfl, hcr, hno⟩ := hrel
    have HCR := Lib.hid hcr
    have HC1 : Hid (Chg [] w wr) := Lib.hid (HC1.out.trans hcr)
    have HR1 : Hid (wr.row? R = some zeroA) := Lib.hid (by rw [hcr.row (row_lt HR1.out) (by simp)]; exact HR1.out)
    have HW1 : Hid (wr.row? B = some listA.toArray) := Lib.hid (by rw [hcr.row (row_lt HW1.out) (by simp)]; exact HW1.out)
    clear hcr
    have HNO := Lib.hid hno
    clear hno
    by_cases hk2 : k < 57
    · have dk : decide ((k : Int) < 57) = true := by simp; omega
      have hkI : (k : Int) < 57 := by omega
      obtain ⟨c, hc⟩ : ∃ c, c = frmL k := ⟨_, rfl⟩
      have hlet := frm_letter k hk2 hk1
      rw [← hc] at hlet
      have HLET := Lib.hid hlet
      have HC := Lib.hid hc
      obtain ⟨W, hW⟩ : ∃ W, W = wrdC k := ⟨_, rfl⟩
      have HW := Lib.hid hW
      have cf : wr.cell? ⟨B, k * 2, none⟩ = some (.string (strB c)) := by rw [row_cell HW1.out, hc]; simpa using listA_frm k hk2
      have cw : wr.cell? ⟨B, k * 2 + 1, none⟩ = some (.int .i64 (W : Int)) := by rw [row_cell HW1.out, hW]; simpa using listA_word k hk2
      have hand : bits .and .i64 (x : Int) (maskN c : Int) = ((x &&& maskN c : Nat) : Int) := and64g x (maskN c) _ HX.out (maskN_lt c) rfl
      obtain ⟨M, hM⟩ : ∃ M, M = maskN c := ⟨_, rfl⟩
      have HMK := rmask_any c hlet
      rw [← hM] at hand HMK
      obtain ⟨a, ha⟩ : ∃ a, a = x &&& M := ⟨_, rfl⟩
      rw [← ha] at hand
      have HFT : Hid (fitsK x k ↔ a = W) := Lib.hid (by unfold fitsK; rw [ha, hM, hW, hc])
      have HMK := Lib.hid HMK
      have HK1 := Lib.hid hk1
      have HK2 := Lib.hid hk2
      clear hlet hc hW hM ha hk1
      go_upto_region 6 with (fail)
      refine wp_region_C (fun w' => w'.cell? ⟨B, k * 2 + 1, none⟩ = some (.int .i64 (W : Int))) [(0, 0), (1, 0), (2, 0), (3, 0), (4, 0), (5, 0), (6, 0), (7, 0), (8, 1), (9, 0)] rfl (by kernel_rfl) ?hSA ?hTA
      case hSA => exact cw
      refine wpT_pureD (v := ?_) (some 19) rfl rfl (by rfl) (fun w' => ?_) ?_
      rotate_left
      · (go_simp; try with_reducible rfl)
      try simp only [Act.put, List.setIfInBounds_toArray, List.set_cons_zero, List.set_cons_succ]
      refine wpT_pureD (v := ?_) (some 20) rfl rfl (by rfl) (fun w' => ?_) ?_
      rotate_left
      · (go_simp; try with_reducible rfl)
      try simp only [Act.put, List.setIfInBounds_toArray, List.set_cons_zero, List.set_cons_succ]
      refine wpT_call (d := some 21) (f := 32) (args := #[.string (strB c)]) (v := .int .i64 (M : Int)) rfl rfl (by rfl) (fun w' => by first | rfl | go_simp) (fun w' => HMK.out w') ?_
      try simp only [Act.put, List.setIfInBounds_toArray, List.set_cons_zero, List.set_cons_succ]
      try simp only [Act.put, List.setIfInBounds_toArray, List.set_cons_zero, List.set_cons_succ]
      refine wpT_pureD (v := ?_) (some 22) rfl rfl (by rfl) (fun w' => ?_) ?_
      rotate_left
      · (go_simp; try with_reducible rfl)
      try simp only [Act.put, List.setIfInBounds_toArray, List.set_cons_zero, List.set_cons_succ]
      refine wpT_pureD (v := ?_) (some 23) rfl rfl (by rfl) (fun w' => ?_) ?_
      rotate_left
      · (go_simp; try with_reducible rfl)
      try simp only [Act.put, List.setIfInBounds_toArray, List.set_cons_zero, List.set_cons_succ]
      refine wpT_pureD (v := ?_) (some 24) rfl rfl (by rfl) (fun w' => ?_) ?_
      rotate_left
      · (go_simp; try with_reducible rfl)
      try simp only [Act.put, List.setIfInBounds_toArray, List.set_cons_zero, List.set_cons_succ]
      refine wpT_pureD (v := ?_) (some 25) rfl rfl (by rfl) (fun w' => ?_) ?_
      rotate_left
      · (go_simp; try with_reducible rfl)
      try simp only [Act.put, List.setIfInBounds_toArray, List.set_cons_zero, List.set_cons_succ]
      refine wpT_pureD (v := ?_) (some 26) rfl rfl (by rfl) (fun w' => ?_) ?_
      rotate_left
      · (go_simp; try with_reducible rfl)
      try simp only [Act.put, List.setIfInBounds_toArray, List.set_cons_zero, List.set_cons_succ]
      refine wpT_readD (v := ?_) (some 27) rfl rfl (by rfl) (fun w' hw => ?_) ?_
      rotate_left
      · (obtain q0 := hw; go_simp; try with_reducible rfl)
      try simp only [Act.put, List.setIfInBounds_toArray, List.set_cons_zero, List.set_cons_succ]
      refine wpT_pureD (v := ?_) (some 28) rfl rfl (by rfl) (fun w' => ?_) ?_
      rotate_left
      · (go_simp; try with_reducible rfl)
      try simp only [Act.put, List.setIfInBounds_toArray, List.set_cons_zero, List.set_cons_succ]
      refine wpT_end ?_
      by_cases hf : a = W
      · have hfit := HFT.out.2 hf
        have HFIT := Lib.hid hfit
        have n1 : ((a : Int) != (W : Int)) = false := by simp [hf]
        have n3 : (a = W) = True := by simp [hf]
        have HIMM := Lib.hid (rimm_any c x HX.out HLET.out wr.drew)
        obtain ⟨im, him⟩ : ∃ im, im = immL c x := ⟨_, rfl⟩
        rw [← him] at HIMM
        have HIM := Lib.hid him
        clear hf hfit cf cw hand him
        go_wp2_with fail
        refine HIMM.out.mono ?_
        rintro e w2 ⟨rfl, hc2d⟩
        have hc2 : Chg [] wr w2 := ((Chg.refl [] wr).drew).trans hc2d
        clear hc2d
        obtain ⟨C, hC⟩ : ∃ C, C = w2.heap.size := ⟨_, rfl⟩
        obtain ⟨Z, hZ⟩ : ∃ Z, Z = w2.alloc (.cells #[.int .i64 (k : Int), .int .i64 0, .int .i64 0, .int .i64 0, .int .i64 im] 29) := ⟨_, rfl⟩
        have hcZ : Chg [] wr Z := by rw [hZ]; exact hc2.alloc _
        have r0 : Z.row? C = some #[.int .i64 (k : Int), .int .i64 0, .int .i64 0, .int .i64 0, .int .i64 im] := by rw [hZ]; exact row_alloc_at _ _ _ _ hC
        have hRZ : Z.row? R = some zeroA := by rw [hcZ.row (row_lt HR1.out) (by simp)]; exact HR1.out
        have hRC : R ≠ C := by have := row_lt HR1.out; have := hc2.size; omega
        have HZC : Hid (Chg [] w Z) := Lib.hid (HC1.out.trans hcZ)
        have HRZ := Lib.hid hRZ
        have HRC := Lib.hid hRC
        have HZ := Lib.hid hZ
        have HCC := Lib.hid hC
        have HCW : Hid (w.heap.size ≤ C) := Lib.hid (by have := HC1.out.size; have := hc2.size; omega)
        have R0 := Lib.hid r0
        clear hcZ r0 hRZ hRC hZ hC hc2 n1 n3 HIMM
        go_upto_region 8 with (refine wpList_store_new a29 _ _ rfl rfl rfl rfl rfl rfl rfl rfl ?_)
        rw [← HCC.out, ← HZ.out]
        clear HZ
        have HFR := Lib.hid HC.out
        rcases HLET.out with rfl | rfl | rfl | rfl | rfl | rfl | rfl | rfl | rfl | rfl | rfl
        · have hs : strB 85 = ⟨#[85]⟩ := rfl
          rw [hs]
          clear hs
          have B1 := Lib.hid (bits_11_7 x HX.out Z)
          go_wp2_with fail
          refine B1.out.mono ?_
          rintro e v1 ⟨rfl, hc1⟩
          have s1 : v1.row? C = some #[.int .i64 (k : Int), .int .i64 0, .int .i64 0, .int .i64 0, .int .i64 im] := by rw [hc1.row (row_lt R0.out) (by simp)]; exact R0.out
          have y1 : v1.cell? ⟨C, 1, none⟩ = some (.int .i64 0) := by rw [row_cell s1]; rfl
          have f1 := row_free s1 1
          obtain ⟨u1, hu1⟩ : ∃ u, u = v1.setCell ⟨C, 1, none⟩ (.int .i64 ((x : Int) / 128 % 32)) := ⟨_, rfl⟩
          have D1 := Lib.hid hu1
          have S1 : Hid (u1.row? C = some #[.int .i64 (k : Int), .int .i64 ((x : Int) / 128 % 32), .int .i64 0, .int .i64 0, .int .i64 im]) := Lib.hid (by rw [hu1, row_setCell_same, s1]; rfl)
          have K1 : Hid (Chg [] w u1) := Lib.hid (by rw [hu1]; exact (HZC.out.trans hc1).setCell (Or.inr HCW.out) _)
          have Q1 : Hid (u1.row? R = some zeroA) := Lib.hid (by rw [hu1, row_setCell_other _ _ _ _ (by simpa using HRC.out), hc1.row (row_lt HRZ.out) (by simp)]; exact HRZ.out)
          clear hc1 s1 hu1
          go_upto_region 14 with (fail)
          rw [← D1.out]
          clear y1 f1
          have HLD : Hid (∀ (j : Nat) (u : Value), [.int .i64 (k : Int), .int .i64 ((x : Int) / 128 % 32), .int .i64 0, .int .i64 0, .int .i64 im][j]? = some u → u1.cell? ⟨C, 0 + j, none⟩ = some u) := Lib.hid fun j u hu => by
            rw [Nat.zero_add, row_cell S1.out]; simpa using hu
          go_wp2_with (first | refine wpList_load_part a29 [.int .i64 (k : Int), .int .i64 ((x : Int) / 128 % 32), .int .i64 0, .int .i64 0, .int .i64 im] rfl _ rfl rfl rfl HLD.out ?_ | refine wpList_store_row a29 _ _ rfl rfl rfl rfl rfl Q1.out rfl rfl rfl ?_)
          refine bodyPost_ret (ret_cell1 rfl a29 rfl (by rw [row_setRow, if_pos rfl, Q1.out]; rfl) rfl) rfl ?_
          refine ⟨.inl ⟨k, HK1.out, HK2.out, HFIT.out, ?_⟩, K1.out.setRow (Or.inr (by have := HRW.out; omega)) _⟩
          unfold resA
          rw [← HFR.out, HIM.out]
          show Ending.returned (.agg #[.int .i64 (k : Int), .int .i64 ((x : Int) / 128 % 32), .int .i64 0, .int .i64 0, .int .i64 (immL 85 x)]) = .returned (.agg #[.int .i64 (k : Int), .int .i64 ((rdN x : Nat) : Int), .int .i64 ((0 : Nat) : Int), .int .i64 ((0 : Nat) : Int), .int .i64 (immL 85 x)])
          rw [rdN_i]
          try rfl
        · have hs : strB 74 = ⟨#[74]⟩ := rfl
          rw [hs]
          clear hs
          have B1 := Lib.hid (bits_11_7 x HX.out Z)
          go_wp2_with fail
          refine B1.out.mono ?_
          rintro e v1 ⟨rfl, hc1⟩
          have s1 : v1.row? C = some #[.int .i64 (k : Int), .int .i64 0, .int .i64 0, .int .i64 0, .int .i64 im] := by rw [hc1.row (row_lt R0.out) (by simp)]; exact R0.out
          have y1 : v1.cell? ⟨C, 1, none⟩ = some (.int .i64 0) := by rw [row_cell s1]; rfl
          have f1 := row_free s1 1
          obtain ⟨u1, hu1⟩ : ∃ u, u = v1.setCell ⟨C, 1, none⟩ (.int .i64 ((x : Int) / 128 % 32)) := ⟨_, rfl⟩
          have D1 := Lib.hid hu1
          have S1 : Hid (u1.row? C = some #[.int .i64 (k : Int), .int .i64 ((x : Int) / 128 % 32), .int .i64 0, .int .i64 0, .int .i64 im]) := Lib.hid (by rw [hu1, row_setCell_same, s1]; rfl)
          have K1 : Hid (Chg [] w u1) := Lib.hid (by rw [hu1]; exact (HZC.out.trans hc1).setCell (Or.inr HCW.out) _)
          have Q1 : Hid (u1.row? R = some zeroA) := Lib.hid (by rw [hu1, row_setCell_other _ _ _ _ (by simpa using HRC.out), hc1.row (row_lt HRZ.out) (by simp)]; exact HRZ.out)
          clear hc1 s1 hu1
          go_upto_region 14 with (fail)
          rw [← D1.out]
          clear y1 f1
          have HLD : Hid (∀ (j : Nat) (u : Value), [.int .i64 (k : Int), .int .i64 ((x : Int) / 128 % 32), .int .i64 0, .int .i64 0, .int .i64 im][j]? = some u → u1.cell? ⟨C, 0 + j, none⟩ = some u) := Lib.hid fun j u hu => by
            rw [Nat.zero_add, row_cell S1.out]; simpa using hu
          go_wp2_with (first | refine wpList_load_part a29 [.int .i64 (k : Int), .int .i64 ((x : Int) / 128 % 32), .int .i64 0, .int .i64 0, .int .i64 im] rfl _ rfl rfl rfl HLD.out ?_ | refine wpList_store_row a29 _ _ rfl rfl rfl rfl rfl Q1.out rfl rfl rfl ?_)
          refine bodyPost_ret (ret_cell1 rfl a29 rfl (by rw [row_setRow, if_pos rfl, Q1.out]; rfl) rfl) rfl ?_
          refine ⟨.inl ⟨k, HK1.out, HK2.out, HFIT.out, ?_⟩, K1.out.setRow (Or.inr (by have := HRW.out; omega)) _⟩
          unfold resA
          rw [← HFR.out, HIM.out]
          show Ending.returned (.agg #[.int .i64 (k : Int), .int .i64 ((x : Int) / 128 % 32), .int .i64 0, .int .i64 0, .int .i64 (immL 74 x)]) = .returned (.agg #[.int .i64 (k : Int), .int .i64 ((rdN x : Nat) : Int), .int .i64 ((0 : Nat) : Int), .int .i64 ((0 : Nat) : Int), .int .i64 (immL 74 x)])
          rw [rdN_i]
          try rfl
        · have hs : strB 73 = ⟨#[73]⟩ := rfl
          rw [hs]
          clear hs
          have B1 := Lib.hid (bits_11_7 x HX.out Z)
          go_wp2_with fail
          refine B1.out.mono ?_
          rintro e v1 ⟨rfl, hc1⟩
          have s1 : v1.row? C = some #[.int .i64 (k : Int), .int .i64 0, .int .i64 0, .int .i64 0, .int .i64 im] := by rw [hc1.row (row_lt R0.out) (by simp)]; exact R0.out
          have y1 : v1.cell? ⟨C, 1, none⟩ = some (.int .i64 0) := by rw [row_cell s1]; rfl
          have f1 := row_free s1 1
          obtain ⟨u1, hu1⟩ : ∃ u, u = v1.setCell ⟨C, 1, none⟩ (.int .i64 ((x : Int) / 128 % 32)) := ⟨_, rfl⟩
          have D1 := Lib.hid hu1
          have S1 : Hid (u1.row? C = some #[.int .i64 (k : Int), .int .i64 ((x : Int) / 128 % 32), .int .i64 0, .int .i64 0, .int .i64 im]) := Lib.hid (by rw [hu1, row_setCell_same, s1]; rfl)
          have K1 : Hid (Chg [] w u1) := Lib.hid (by rw [hu1]; exact (HZC.out.trans hc1).setCell (Or.inr HCW.out) _)
          have Q1 : Hid (u1.row? R = some zeroA) := Lib.hid (by rw [hu1, row_setCell_other _ _ _ _ (by simpa using HRC.out), hc1.row (row_lt HRZ.out) (by simp)]; exact HRZ.out)
          clear hc1 s1 hu1
          have B2 := Lib.hid (bits_19_15 x HX.out u1)
          go_wp2_with fail
          rw [← D1.out]
          refine B2.out.mono ?_
          rintro e v2 ⟨rfl, hc2⟩
          have s2 : v2.row? C = some #[.int .i64 (k : Int), .int .i64 ((x : Int) / 128 % 32), .int .i64 0, .int .i64 0, .int .i64 im] := by rw [hc2.row (row_lt S1.out) (by simp)]; exact S1.out
          have y2 : v2.cell? ⟨C, 2, none⟩ = some (.int .i64 0) := by rw [row_cell s2]; rfl
          have f2 := row_free s2 2
          obtain ⟨u2, hu2⟩ : ∃ u, u = v2.setCell ⟨C, 2, none⟩ (.int .i64 ((x : Int) / 32768 % 32)) := ⟨_, rfl⟩
          have D2 := Lib.hid hu2
          have S2 : Hid (u2.row? C = some #[.int .i64 (k : Int), .int .i64 ((x : Int) / 128 % 32), .int .i64 ((x : Int) / 32768 % 32), .int .i64 0, .int .i64 im]) := Lib.hid (by rw [hu2, row_setCell_same, s2]; rfl)
          have K2 : Hid (Chg [] w u2) := Lib.hid (by rw [hu2]; exact (K1.out.trans hc2).setCell (Or.inr HCW.out) _)
          have Q2 : Hid (u2.row? R = some zeroA) := Lib.hid (by rw [hu2, row_setCell_other _ _ _ _ (by simpa using HRC.out), hc2.row (row_lt Q1.out) (by simp)]; exact Q1.out)
          clear hc2 s2 hu2
          go_upto_region 14 with (fail)
          rw [← D2.out]
          clear y1 f1
          clear y2 f2
          have HLD : Hid (∀ (j : Nat) (u : Value), [.int .i64 (k : Int), .int .i64 ((x : Int) / 128 % 32), .int .i64 ((x : Int) / 32768 % 32), .int .i64 0, .int .i64 im][j]? = some u → u2.cell? ⟨C, 0 + j, none⟩ = some u) := Lib.hid fun j u hu => by
            rw [Nat.zero_add, row_cell S2.out]; simpa using hu
          go_wp2_with (first | refine wpList_load_part a29 [.int .i64 (k : Int), .int .i64 ((x : Int) / 128 % 32), .int .i64 ((x : Int) / 32768 % 32), .int .i64 0, .int .i64 im] rfl _ rfl rfl rfl HLD.out ?_ | refine wpList_store_row a29 _ _ rfl rfl rfl rfl rfl Q2.out rfl rfl rfl ?_)
          refine bodyPost_ret (ret_cell1 rfl a29 rfl (by rw [row_setRow, if_pos rfl, Q2.out]; rfl) rfl) rfl ?_
          refine ⟨.inl ⟨k, HK1.out, HK2.out, HFIT.out, ?_⟩, K2.out.setRow (Or.inr (by have := HRW.out; omega)) _⟩
          unfold resA
          rw [← HFR.out, HIM.out]
          show Ending.returned (.agg #[.int .i64 (k : Int), .int .i64 ((x : Int) / 128 % 32), .int .i64 ((x : Int) / 32768 % 32), .int .i64 0, .int .i64 (immL 73 x)]) = .returned (.agg #[.int .i64 (k : Int), .int .i64 ((rdN x : Nat) : Int), .int .i64 ((rs1N x : Nat) : Int), .int .i64 ((0 : Nat) : Int), .int .i64 (immL 73 x)])
          rw [rdN_i, rs1N_i]
          try rfl
        · have hs : strB 66 = ⟨#[66]⟩ := rfl
          rw [hs]
          clear hs
          have B1 := Lib.hid (bits_19_15 x HX.out Z)
          go_wp2_with fail
          refine B1.out.mono ?_
          rintro e v1 ⟨rfl, hc1⟩
          have s1 : v1.row? C = some #[.int .i64 (k : Int), .int .i64 0, .int .i64 0, .int .i64 0, .int .i64 im] := by rw [hc1.row (row_lt R0.out) (by simp)]; exact R0.out
          have y1 : v1.cell? ⟨C, 2, none⟩ = some (.int .i64 0) := by rw [row_cell s1]; rfl
          have f1 := row_free s1 2
          obtain ⟨u1, hu1⟩ : ∃ u, u = v1.setCell ⟨C, 2, none⟩ (.int .i64 ((x : Int) / 32768 % 32)) := ⟨_, rfl⟩
          have D1 := Lib.hid hu1
          have S1 : Hid (u1.row? C = some #[.int .i64 (k : Int), .int .i64 0, .int .i64 ((x : Int) / 32768 % 32), .int .i64 0, .int .i64 im]) := Lib.hid (by rw [hu1, row_setCell_same, s1]; rfl)
          have K1 : Hid (Chg [] w u1) := Lib.hid (by rw [hu1]; exact (HZC.out.trans hc1).setCell (Or.inr HCW.out) _)
          have Q1 : Hid (u1.row? R = some zeroA) := Lib.hid (by rw [hu1, row_setCell_other _ _ _ _ (by simpa using HRC.out), hc1.row (row_lt HRZ.out) (by simp)]; exact HRZ.out)
          clear hc1 s1 hu1
          have B2 := Lib.hid (bits_24_20 x HX.out u1)
          go_wp2_with fail
          rw [← D1.out]
          refine B2.out.mono ?_
          rintro e v2 ⟨rfl, hc2⟩
          have s2 : v2.row? C = some #[.int .i64 (k : Int), .int .i64 0, .int .i64 ((x : Int) / 32768 % 32), .int .i64 0, .int .i64 im] := by rw [hc2.row (row_lt S1.out) (by simp)]; exact S1.out
          have y2 : v2.cell? ⟨C, 3, none⟩ = some (.int .i64 0) := by rw [row_cell s2]; rfl
          have f2 := row_free s2 3
          obtain ⟨u2, hu2⟩ : ∃ u, u = v2.setCell ⟨C, 3, none⟩ (.int .i64 ((x : Int) / 1048576 % 32)) := ⟨_, rfl⟩
          have D2 := Lib.hid hu2
          have S2 : Hid (u2.row? C = some #[.int .i64 (k : Int), .int .i64 0, .int .i64 ((x : Int) / 32768 % 32), .int .i64 ((x : Int) / 1048576 % 32), .int .i64 im]) := Lib.hid (by rw [hu2, row_setCell_same, s2]; rfl)
          have K2 : Hid (Chg [] w u2) := Lib.hid (by rw [hu2]; exact (K1.out.trans hc2).setCell (Or.inr HCW.out) _)
          have Q2 : Hid (u2.row? R = some zeroA) := Lib.hid (by rw [hu2, row_setCell_other _ _ _ _ (by simpa using HRC.out), hc2.row (row_lt Q1.out) (by simp)]; exact Q1.out)
          clear hc2 s2 hu2
          go_upto_region 14 with (fail)
          rw [← D2.out]
          clear y1 f1
          clear y2 f2
          have HLD : Hid (∀ (j : Nat) (u : Value), [.int .i64 (k : Int), .int .i64 0, .int .i64 ((x : Int) / 32768 % 32), .int .i64 ((x : Int) / 1048576 % 32), .int .i64 im][j]? = some u → u2.cell? ⟨C, 0 + j, none⟩ = some u) := Lib.hid fun j u hu => by
            rw [Nat.zero_add, row_cell S2.out]; simpa using hu
          go_wp2_with (first | refine wpList_load_part a29 [.int .i64 (k : Int), .int .i64 0, .int .i64 ((x : Int) / 32768 % 32), .int .i64 ((x : Int) / 1048576 % 32), .int .i64 im] rfl _ rfl rfl rfl HLD.out ?_ | refine wpList_store_row a29 _ _ rfl rfl rfl rfl rfl Q2.out rfl rfl rfl ?_)
          refine bodyPost_ret (ret_cell1 rfl a29 rfl (by rw [row_setRow, if_pos rfl, Q2.out]; rfl) rfl) rfl ?_
          refine ⟨.inl ⟨k, HK1.out, HK2.out, HFIT.out, ?_⟩, K2.out.setRow (Or.inr (by have := HRW.out; omega)) _⟩
          unfold resA
          rw [← HFR.out, HIM.out]
          show Ending.returned (.agg #[.int .i64 (k : Int), .int .i64 0, .int .i64 ((x : Int) / 32768 % 32), .int .i64 ((x : Int) / 1048576 % 32), .int .i64 (immL 66 x)]) = .returned (.agg #[.int .i64 (k : Int), .int .i64 ((0 : Nat) : Int), .int .i64 ((rs1N x : Nat) : Int), .int .i64 ((rs2N x : Nat) : Int), .int .i64 (immL 66 x)])
          rw [rs1N_i, rs2N_i]
          try rfl
        · have hs : strB 83 = ⟨#[83]⟩ := rfl
          rw [hs]
          clear hs
          have B1 := Lib.hid (bits_19_15 x HX.out Z)
          go_wp2_with fail
          refine B1.out.mono ?_
          rintro e v1 ⟨rfl, hc1⟩
          have s1 : v1.row? C = some #[.int .i64 (k : Int), .int .i64 0, .int .i64 0, .int .i64 0, .int .i64 im] := by rw [hc1.row (row_lt R0.out) (by simp)]; exact R0.out
          have y1 : v1.cell? ⟨C, 2, none⟩ = some (.int .i64 0) := by rw [row_cell s1]; rfl
          have f1 := row_free s1 2
          obtain ⟨u1, hu1⟩ : ∃ u, u = v1.setCell ⟨C, 2, none⟩ (.int .i64 ((x : Int) / 32768 % 32)) := ⟨_, rfl⟩
          have D1 := Lib.hid hu1
          have S1 : Hid (u1.row? C = some #[.int .i64 (k : Int), .int .i64 0, .int .i64 ((x : Int) / 32768 % 32), .int .i64 0, .int .i64 im]) := Lib.hid (by rw [hu1, row_setCell_same, s1]; rfl)
          have K1 : Hid (Chg [] w u1) := Lib.hid (by rw [hu1]; exact (HZC.out.trans hc1).setCell (Or.inr HCW.out) _)
          have Q1 : Hid (u1.row? R = some zeroA) := Lib.hid (by rw [hu1, row_setCell_other _ _ _ _ (by simpa using HRC.out), hc1.row (row_lt HRZ.out) (by simp)]; exact HRZ.out)
          clear hc1 s1 hu1
          have B2 := Lib.hid (bits_24_20 x HX.out u1)
          go_wp2_with fail
          rw [← D1.out]
          refine B2.out.mono ?_
          rintro e v2 ⟨rfl, hc2⟩
          have s2 : v2.row? C = some #[.int .i64 (k : Int), .int .i64 0, .int .i64 ((x : Int) / 32768 % 32), .int .i64 0, .int .i64 im] := by rw [hc2.row (row_lt S1.out) (by simp)]; exact S1.out
          have y2 : v2.cell? ⟨C, 3, none⟩ = some (.int .i64 0) := by rw [row_cell s2]; rfl
          have f2 := row_free s2 3
          obtain ⟨u2, hu2⟩ : ∃ u, u = v2.setCell ⟨C, 3, none⟩ (.int .i64 ((x : Int) / 1048576 % 32)) := ⟨_, rfl⟩
          have D2 := Lib.hid hu2
          have S2 : Hid (u2.row? C = some #[.int .i64 (k : Int), .int .i64 0, .int .i64 ((x : Int) / 32768 % 32), .int .i64 ((x : Int) / 1048576 % 32), .int .i64 im]) := Lib.hid (by rw [hu2, row_setCell_same, s2]; rfl)
          have K2 : Hid (Chg [] w u2) := Lib.hid (by rw [hu2]; exact (K1.out.trans hc2).setCell (Or.inr HCW.out) _)
          have Q2 : Hid (u2.row? R = some zeroA) := Lib.hid (by rw [hu2, row_setCell_other _ _ _ _ (by simpa using HRC.out), hc2.row (row_lt Q1.out) (by simp)]; exact Q1.out)
          clear hc2 s2 hu2
          go_upto_region 14 with (fail)
          rw [← D2.out]
          clear y1 f1
          clear y2 f2
          have HLD : Hid (∀ (j : Nat) (u : Value), [.int .i64 (k : Int), .int .i64 0, .int .i64 ((x : Int) / 32768 % 32), .int .i64 ((x : Int) / 1048576 % 32), .int .i64 im][j]? = some u → u2.cell? ⟨C, 0 + j, none⟩ = some u) := Lib.hid fun j u hu => by
            rw [Nat.zero_add, row_cell S2.out]; simpa using hu
          go_wp2_with (first | refine wpList_load_part a29 [.int .i64 (k : Int), .int .i64 0, .int .i64 ((x : Int) / 32768 % 32), .int .i64 ((x : Int) / 1048576 % 32), .int .i64 im] rfl _ rfl rfl rfl HLD.out ?_ | refine wpList_store_row a29 _ _ rfl rfl rfl rfl rfl Q2.out rfl rfl rfl ?_)
          refine bodyPost_ret (ret_cell1 rfl a29 rfl (by rw [row_setRow, if_pos rfl, Q2.out]; rfl) rfl) rfl ?_
          refine ⟨.inl ⟨k, HK1.out, HK2.out, HFIT.out, ?_⟩, K2.out.setRow (Or.inr (by have := HRW.out; omega)) _⟩
          unfold resA
          rw [← HFR.out, HIM.out]
          show Ending.returned (.agg #[.int .i64 (k : Int), .int .i64 0, .int .i64 ((x : Int) / 32768 % 32), .int .i64 ((x : Int) / 1048576 % 32), .int .i64 (immL 83 x)]) = .returned (.agg #[.int .i64 (k : Int), .int .i64 ((0 : Nat) : Int), .int .i64 ((rs1N x : Nat) : Int), .int .i64 ((rs2N x : Nat) : Int), .int .i64 (immL 83 x)])
          rw [rs1N_i, rs2N_i]
          try rfl
        · have hs : strB 82 = ⟨#[82]⟩ := rfl
          rw [hs]
          clear hs
          have B1 := Lib.hid (bits_11_7 x HX.out Z)
          go_wp2_with fail
          refine B1.out.mono ?_
          rintro e v1 ⟨rfl, hc1⟩
          have s1 : v1.row? C = some #[.int .i64 (k : Int), .int .i64 0, .int .i64 0, .int .i64 0, .int .i64 im] := by rw [hc1.row (row_lt R0.out) (by simp)]; exact R0.out
          have y1 : v1.cell? ⟨C, 1, none⟩ = some (.int .i64 0) := by rw [row_cell s1]; rfl
          have f1 := row_free s1 1
          obtain ⟨u1, hu1⟩ : ∃ u, u = v1.setCell ⟨C, 1, none⟩ (.int .i64 ((x : Int) / 128 % 32)) := ⟨_, rfl⟩
          have D1 := Lib.hid hu1
          have S1 : Hid (u1.row? C = some #[.int .i64 (k : Int), .int .i64 ((x : Int) / 128 % 32), .int .i64 0, .int .i64 0, .int .i64 im]) := Lib.hid (by rw [hu1, row_setCell_same, s1]; rfl)
          have K1 : Hid (Chg [] w u1) := Lib.hid (by rw [hu1]; exact (HZC.out.trans hc1).setCell (Or.inr HCW.out) _)
          have Q1 : Hid (u1.row? R = some zeroA) := Lib.hid (by rw [hu1, row_setCell_other _ _ _ _ (by simpa using HRC.out), hc1.row (row_lt HRZ.out) (by simp)]; exact HRZ.out)
          clear hc1 s1 hu1
          have B2 := Lib.hid (bits_19_15 x HX.out u1)
          go_wp2_with fail
          rw [← D1.out]
          refine B2.out.mono ?_
          rintro e v2 ⟨rfl, hc2⟩
          have s2 : v2.row? C = some #[.int .i64 (k : Int), .int .i64 ((x : Int) / 128 % 32), .int .i64 0, .int .i64 0, .int .i64 im] := by rw [hc2.row (row_lt S1.out) (by simp)]; exact S1.out
          have y2 : v2.cell? ⟨C, 2, none⟩ = some (.int .i64 0) := by rw [row_cell s2]; rfl
          have f2 := row_free s2 2
          obtain ⟨u2, hu2⟩ : ∃ u, u = v2.setCell ⟨C, 2, none⟩ (.int .i64 ((x : Int) / 32768 % 32)) := ⟨_, rfl⟩
          have D2 := Lib.hid hu2
          have S2 : Hid (u2.row? C = some #[.int .i64 (k : Int), .int .i64 ((x : Int) / 128 % 32), .int .i64 ((x : Int) / 32768 % 32), .int .i64 0, .int .i64 im]) := Lib.hid (by rw [hu2, row_setCell_same, s2]; rfl)
          have K2 : Hid (Chg [] w u2) := Lib.hid (by rw [hu2]; exact (K1.out.trans hc2).setCell (Or.inr HCW.out) _)
          have Q2 : Hid (u2.row? R = some zeroA) := Lib.hid (by rw [hu2, row_setCell_other _ _ _ _ (by simpa using HRC.out), hc2.row (row_lt Q1.out) (by simp)]; exact Q1.out)
          clear hc2 s2 hu2
          have B3 := Lib.hid (bits_24_20 x HX.out u2)
          go_wp2_with fail
          rw [← D2.out]
          refine B3.out.mono ?_
          rintro e v3 ⟨rfl, hc3⟩
          have s3 : v3.row? C = some #[.int .i64 (k : Int), .int .i64 ((x : Int) / 128 % 32), .int .i64 ((x : Int) / 32768 % 32), .int .i64 0, .int .i64 im] := by rw [hc3.row (row_lt S2.out) (by simp)]; exact S2.out
          have y3 : v3.cell? ⟨C, 3, none⟩ = some (.int .i64 0) := by rw [row_cell s3]; rfl
          have f3 := row_free s3 3
          obtain ⟨u3, hu3⟩ : ∃ u, u = v3.setCell ⟨C, 3, none⟩ (.int .i64 ((x : Int) / 1048576 % 32)) := ⟨_, rfl⟩
          have D3 := Lib.hid hu3
          have S3 : Hid (u3.row? C = some #[.int .i64 (k : Int), .int .i64 ((x : Int) / 128 % 32), .int .i64 ((x : Int) / 32768 % 32), .int .i64 ((x : Int) / 1048576 % 32), .int .i64 im]) := Lib.hid (by rw [hu3, row_setCell_same, s3]; rfl)
          have K3 : Hid (Chg [] w u3) := Lib.hid (by rw [hu3]; exact (K2.out.trans hc3).setCell (Or.inr HCW.out) _)
          have Q3 : Hid (u3.row? R = some zeroA) := Lib.hid (by rw [hu3, row_setCell_other _ _ _ _ (by simpa using HRC.out), hc3.row (row_lt Q2.out) (by simp)]; exact Q2.out)
          clear hc3 s3 hu3
          go_upto_region 14 with (fail)
          rw [← D3.out]
          clear y1 f1
          clear y2 f2
          clear y3 f3
          have HLD : Hid (∀ (j : Nat) (u : Value), [.int .i64 (k : Int), .int .i64 ((x : Int) / 128 % 32), .int .i64 ((x : Int) / 32768 % 32), .int .i64 ((x : Int) / 1048576 % 32), .int .i64 im][j]? = some u → u3.cell? ⟨C, 0 + j, none⟩ = some u) := Lib.hid fun j u hu => by
            rw [Nat.zero_add, row_cell S3.out]; simpa using hu
          go_wp2_with (first | refine wpList_load_part a29 [.int .i64 (k : Int), .int .i64 ((x : Int) / 128 % 32), .int .i64 ((x : Int) / 32768 % 32), .int .i64 ((x : Int) / 1048576 % 32), .int .i64 im] rfl _ rfl rfl rfl HLD.out ?_ | refine wpList_store_row a29 _ _ rfl rfl rfl rfl rfl Q3.out rfl rfl rfl ?_)
          refine bodyPost_ret (ret_cell1 rfl a29 rfl (by rw [row_setRow, if_pos rfl, Q3.out]; rfl) rfl) rfl ?_
          refine ⟨.inl ⟨k, HK1.out, HK2.out, HFIT.out, ?_⟩, K3.out.setRow (Or.inr (by have := HRW.out; omega)) _⟩
          unfold resA
          rw [← HFR.out, HIM.out]
          show Ending.returned (.agg #[.int .i64 (k : Int), .int .i64 ((x : Int) / 128 % 32), .int .i64 ((x : Int) / 32768 % 32), .int .i64 ((x : Int) / 1048576 % 32), .int .i64 (immL 82 x)]) = .returned (.agg #[.int .i64 (k : Int), .int .i64 ((rdN x : Nat) : Int), .int .i64 ((rs1N x : Nat) : Int), .int .i64 ((rs2N x : Nat) : Int), .int .i64 (immL 82 x)])
          rw [rdN_i, rs1N_i, rs2N_i]
        · have hs : strB 84 = ⟨#[84]⟩ := rfl
          rw [hs]
          clear hs
          have B1 := Lib.hid (bits_11_7 x HX.out Z)
          go_wp2_with fail
          refine B1.out.mono ?_
          rintro e v1 ⟨rfl, hc1⟩
          have s1 : v1.row? C = some #[.int .i64 (k : Int), .int .i64 0, .int .i64 0, .int .i64 0, .int .i64 im] := by rw [hc1.row (row_lt R0.out) (by simp)]; exact R0.out
          have y1 : v1.cell? ⟨C, 1, none⟩ = some (.int .i64 0) := by rw [row_cell s1]; rfl
          have f1 := row_free s1 1
          obtain ⟨u1, hu1⟩ : ∃ u, u = v1.setCell ⟨C, 1, none⟩ (.int .i64 ((x : Int) / 128 % 32)) := ⟨_, rfl⟩
          have D1 := Lib.hid hu1
          have S1 : Hid (u1.row? C = some #[.int .i64 (k : Int), .int .i64 ((x : Int) / 128 % 32), .int .i64 0, .int .i64 0, .int .i64 im]) := Lib.hid (by rw [hu1, row_setCell_same, s1]; rfl)
          have K1 : Hid (Chg [] w u1) := Lib.hid (by rw [hu1]; exact (HZC.out.trans hc1).setCell (Or.inr HCW.out) _)
          have Q1 : Hid (u1.row? R = some zeroA) := Lib.hid (by rw [hu1, row_setCell_other _ _ _ _ (by simpa using HRC.out), hc1.row (row_lt HRZ.out) (by simp)]; exact HRZ.out)
          clear hc1 s1 hu1
          have B2 := Lib.hid (bits_19_15 x HX.out u1)
          go_wp2_with fail
          rw [← D1.out]
          refine B2.out.mono ?_
          rintro e v2 ⟨rfl, hc2⟩
          have s2 : v2.row? C = some #[.int .i64 (k : Int), .int .i64 ((x : Int) / 128 % 32), .int .i64 0, .int .i64 0, .int .i64 im] := by rw [hc2.row (row_lt S1.out) (by simp)]; exact S1.out
          have y2 : v2.cell? ⟨C, 2, none⟩ = some (.int .i64 0) := by rw [row_cell s2]; rfl
          have f2 := row_free s2 2
          obtain ⟨u2, hu2⟩ : ∃ u, u = v2.setCell ⟨C, 2, none⟩ (.int .i64 ((x : Int) / 32768 % 32)) := ⟨_, rfl⟩
          have D2 := Lib.hid hu2
          have S2 : Hid (u2.row? C = some #[.int .i64 (k : Int), .int .i64 ((x : Int) / 128 % 32), .int .i64 ((x : Int) / 32768 % 32), .int .i64 0, .int .i64 im]) := Lib.hid (by rw [hu2, row_setCell_same, s2]; rfl)
          have K2 : Hid (Chg [] w u2) := Lib.hid (by rw [hu2]; exact (K1.out.trans hc2).setCell (Or.inr HCW.out) _)
          have Q2 : Hid (u2.row? R = some zeroA) := Lib.hid (by rw [hu2, row_setCell_other _ _ _ _ (by simpa using HRC.out), hc2.row (row_lt Q1.out) (by simp)]; exact Q1.out)
          clear hc2 s2 hu2
          go_upto_region 14 with (fail)
          rw [← D2.out]
          clear y1 f1
          clear y2 f2
          have HLD : Hid (∀ (j : Nat) (u : Value), [.int .i64 (k : Int), .int .i64 ((x : Int) / 128 % 32), .int .i64 ((x : Int) / 32768 % 32), .int .i64 0, .int .i64 im][j]? = some u → u2.cell? ⟨C, 0 + j, none⟩ = some u) := Lib.hid fun j u hu => by
            rw [Nat.zero_add, row_cell S2.out]; simpa using hu
          go_wp2_with (first | refine wpList_load_part a29 [.int .i64 (k : Int), .int .i64 ((x : Int) / 128 % 32), .int .i64 ((x : Int) / 32768 % 32), .int .i64 0, .int .i64 im] rfl _ rfl rfl rfl HLD.out ?_ | refine wpList_store_row a29 _ _ rfl rfl rfl rfl rfl Q2.out rfl rfl rfl ?_)
          refine bodyPost_ret (ret_cell1 rfl a29 rfl (by rw [row_setRow, if_pos rfl, Q2.out]; rfl) rfl) rfl ?_
          refine ⟨.inl ⟨k, HK1.out, HK2.out, HFIT.out, ?_⟩, K2.out.setRow (Or.inr (by have := HRW.out; omega)) _⟩
          unfold resA
          rw [← HFR.out, HIM.out]
          show Ending.returned (.agg #[.int .i64 (k : Int), .int .i64 ((x : Int) / 128 % 32), .int .i64 ((x : Int) / 32768 % 32), .int .i64 0, .int .i64 (immL 84 x)]) = .returned (.agg #[.int .i64 (k : Int), .int .i64 ((rdN x : Nat) : Int), .int .i64 ((rs1N x : Nat) : Int), .int .i64 ((0 : Nat) : Int), .int .i64 (immL 84 x)])
          rw [rdN_i, rs1N_i]
          try rfl
        · have hs : strB 78 = ⟨#[78]⟩ := rfl
          rw [hs]
          clear hs
          go_upto_region 14 with (fail)
          have HLD : Hid (∀ (j : Nat) (u : Value), [.int .i64 (k : Int), .int .i64 0, .int .i64 0, .int .i64 0, .int .i64 im][j]? = some u → Z.cell? ⟨C, 0 + j, none⟩ = some u) := Lib.hid fun j u hu => by
            rw [Nat.zero_add, row_cell R0.out]; simpa using hu
          go_wp2_with (first | refine wpList_load_part a29 [.int .i64 (k : Int), .int .i64 0, .int .i64 0, .int .i64 0, .int .i64 im] rfl _ rfl rfl rfl HLD.out ?_ | refine wpList_store_row a29 _ _ rfl rfl rfl rfl rfl HRZ.out rfl rfl rfl ?_)
          refine bodyPost_ret (ret_cell1 rfl a29 rfl (by rw [row_setRow, if_pos rfl, HRZ.out]; rfl) rfl) rfl ?_
          refine ⟨.inl ⟨k, HK1.out, HK2.out, HFIT.out, ?_⟩, HZC.out.setRow (Or.inr (by have := HRW.out; omega)) _⟩
          unfold resA
          rw [← HFR.out, HIM.out]
          show Ending.returned (.agg #[.int .i64 (k : Int), .int .i64 0, .int .i64 0, .int .i64 0, .int .i64 (immL 78 x)]) = .returned (.agg #[.int .i64 (k : Int), .int .i64 ((0 : Nat) : Int), .int .i64 ((0 : Nat) : Int), .int .i64 ((0 : Nat) : Int), .int .i64 (immL 78 x)])
          rfl
        · have hs : strB 67 = ⟨#[67]⟩ := rfl
          rw [hs]
          clear hs
          have B1 := Lib.hid (bits_11_7 x HX.out Z)
          go_wp2_with fail
          refine B1.out.mono ?_
          rintro e v1 ⟨rfl, hc1⟩
          have s1 : v1.row? C = some #[.int .i64 (k : Int), .int .i64 0, .int .i64 0, .int .i64 0, .int .i64 im] := by rw [hc1.row (row_lt R0.out) (by simp)]; exact R0.out
          have y1 : v1.cell? ⟨C, 1, none⟩ = some (.int .i64 0) := by rw [row_cell s1]; rfl
          have f1 := row_free s1 1
          obtain ⟨u1, hu1⟩ : ∃ u, u = v1.setCell ⟨C, 1, none⟩ (.int .i64 ((x : Int) / 128 % 32)) := ⟨_, rfl⟩
          have D1 := Lib.hid hu1
          have S1 : Hid (u1.row? C = some #[.int .i64 (k : Int), .int .i64 ((x : Int) / 128 % 32), .int .i64 0, .int .i64 0, .int .i64 im]) := Lib.hid (by rw [hu1, row_setCell_same, s1]; rfl)
          have K1 : Hid (Chg [] w u1) := Lib.hid (by rw [hu1]; exact (HZC.out.trans hc1).setCell (Or.inr HCW.out) _)
          have Q1 : Hid (u1.row? R = some zeroA) := Lib.hid (by rw [hu1, row_setCell_other _ _ _ _ (by simpa using HRC.out), hc1.row (row_lt HRZ.out) (by simp)]; exact HRZ.out)
          clear hc1 s1 hu1
          have B2 := Lib.hid (bits_19_15 x HX.out u1)
          go_wp2_with fail
          rw [← D1.out]
          refine B2.out.mono ?_
          rintro e v2 ⟨rfl, hc2⟩
          have s2 : v2.row? C = some #[.int .i64 (k : Int), .int .i64 ((x : Int) / 128 % 32), .int .i64 0, .int .i64 0, .int .i64 im] := by rw [hc2.row (row_lt S1.out) (by simp)]; exact S1.out
          have y2 : v2.cell? ⟨C, 2, none⟩ = some (.int .i64 0) := by rw [row_cell s2]; rfl
          have f2 := row_free s2 2
          obtain ⟨u2, hu2⟩ : ∃ u, u = v2.setCell ⟨C, 2, none⟩ (.int .i64 ((x : Int) / 32768 % 32)) := ⟨_, rfl⟩
          have D2 := Lib.hid hu2
          have S2 : Hid (u2.row? C = some #[.int .i64 (k : Int), .int .i64 ((x : Int) / 128 % 32), .int .i64 ((x : Int) / 32768 % 32), .int .i64 0, .int .i64 im]) := Lib.hid (by rw [hu2, row_setCell_same, s2]; rfl)
          have K2 : Hid (Chg [] w u2) := Lib.hid (by rw [hu2]; exact (K1.out.trans hc2).setCell (Or.inr HCW.out) _)
          have Q2 : Hid (u2.row? R = some zeroA) := Lib.hid (by rw [hu2, row_setCell_other _ _ _ _ (by simpa using HRC.out), hc2.row (row_lt Q1.out) (by simp)]; exact Q1.out)
          clear hc2 s2 hu2
          go_upto_region 14 with (fail)
          rw [← D2.out]
          clear y1 f1
          clear y2 f2
          have HLD : Hid (∀ (j : Nat) (u : Value), [.int .i64 (k : Int), .int .i64 ((x : Int) / 128 % 32), .int .i64 ((x : Int) / 32768 % 32), .int .i64 0, .int .i64 im][j]? = some u → u2.cell? ⟨C, 0 + j, none⟩ = some u) := Lib.hid fun j u hu => by
            rw [Nat.zero_add, row_cell S2.out]; simpa using hu
          go_wp2_with (first | refine wpList_load_part a29 [.int .i64 (k : Int), .int .i64 ((x : Int) / 128 % 32), .int .i64 ((x : Int) / 32768 % 32), .int .i64 0, .int .i64 im] rfl _ rfl rfl rfl HLD.out ?_ | refine wpList_store_row a29 _ _ rfl rfl rfl rfl rfl Q2.out rfl rfl rfl ?_)
          refine bodyPost_ret (ret_cell1 rfl a29 rfl (by rw [row_setRow, if_pos rfl, Q2.out]; rfl) rfl) rfl ?_
          refine ⟨.inl ⟨k, HK1.out, HK2.out, HFIT.out, ?_⟩, K2.out.setRow (Or.inr (by have := HRW.out; omega)) _⟩
          unfold resA
          rw [← HFR.out, HIM.out]
          show Ending.returned (.agg #[.int .i64 (k : Int), .int .i64 ((x : Int) / 128 % 32), .int .i64 ((x : Int) / 32768 % 32), .int .i64 0, .int .i64 (immL 67 x)]) = .returned (.agg #[.int .i64 (k : Int), .int .i64 ((rdN x : Nat) : Int), .int .i64 ((rs1N x : Nat) : Int), .int .i64 ((0 : Nat) : Int), .int .i64 (immL 67 x)])
          rw [rdN_i, rs1N_i]
          try rfl
        · have hs : strB 90 = ⟨#[90]⟩ := rfl
          rw [hs]
          clear hs
          have B1 := Lib.hid (bits_11_7 x HX.out Z)
          go_wp2_with fail
          refine B1.out.mono ?_
          rintro e v1 ⟨rfl, hc1⟩
          have s1 : v1.row? C = some #[.int .i64 (k : Int), .int .i64 0, .int .i64 0, .int .i64 0, .int .i64 im] := by rw [hc1.row (row_lt R0.out) (by simp)]; exact R0.out
          have y1 : v1.cell? ⟨C, 1, none⟩ = some (.int .i64 0) := by rw [row_cell s1]; rfl
          have f1 := row_free s1 1
          obtain ⟨u1, hu1⟩ : ∃ u, u = v1.setCell ⟨C, 1, none⟩ (.int .i64 ((x : Int) / 128 % 32)) := ⟨_, rfl⟩
          have D1 := Lib.hid hu1
          have S1 : Hid (u1.row? C = some #[.int .i64 (k : Int), .int .i64 ((x : Int) / 128 % 32), .int .i64 0, .int .i64 0, .int .i64 im]) := Lib.hid (by rw [hu1, row_setCell_same, s1]; rfl)
          have K1 : Hid (Chg [] w u1) := Lib.hid (by rw [hu1]; exact (HZC.out.trans hc1).setCell (Or.inr HCW.out) _)
          have Q1 : Hid (u1.row? R = some zeroA) := Lib.hid (by rw [hu1, row_setCell_other _ _ _ _ (by simpa using HRC.out), hc1.row (row_lt HRZ.out) (by simp)]; exact HRZ.out)
          clear hc1 s1 hu1
          have B2 := Lib.hid (bits_19_15 x HX.out u1)
          go_wp2_with fail
          rw [← D1.out]
          refine B2.out.mono ?_
          rintro e v2 ⟨rfl, hc2⟩
          have s2 : v2.row? C = some #[.int .i64 (k : Int), .int .i64 ((x : Int) / 128 % 32), .int .i64 0, .int .i64 0, .int .i64 im] := by rw [hc2.row (row_lt S1.out) (by simp)]; exact S1.out
          have y2 : v2.cell? ⟨C, 2, none⟩ = some (.int .i64 0) := by rw [row_cell s2]; rfl
          have f2 := row_free s2 2
          obtain ⟨u2, hu2⟩ : ∃ u, u = v2.setCell ⟨C, 2, none⟩ (.int .i64 ((x : Int) / 32768 % 32)) := ⟨_, rfl⟩
          have D2 := Lib.hid hu2
          have S2 : Hid (u2.row? C = some #[.int .i64 (k : Int), .int .i64 ((x : Int) / 128 % 32), .int .i64 ((x : Int) / 32768 % 32), .int .i64 0, .int .i64 im]) := Lib.hid (by rw [hu2, row_setCell_same, s2]; rfl)
          have K2 : Hid (Chg [] w u2) := Lib.hid (by rw [hu2]; exact (K1.out.trans hc2).setCell (Or.inr HCW.out) _)
          have Q2 : Hid (u2.row? R = some zeroA) := Lib.hid (by rw [hu2, row_setCell_other _ _ _ _ (by simpa using HRC.out), hc2.row (row_lt Q1.out) (by simp)]; exact Q1.out)
          clear hc2 s2 hu2
          go_upto_region 14 with (fail)
          rw [← D2.out]
          clear y1 f1
          clear y2 f2
          have HLD : Hid (∀ (j : Nat) (u : Value), [.int .i64 (k : Int), .int .i64 ((x : Int) / 128 % 32), .int .i64 ((x : Int) / 32768 % 32), .int .i64 0, .int .i64 im][j]? = some u → u2.cell? ⟨C, 0 + j, none⟩ = some u) := Lib.hid fun j u hu => by
            rw [Nat.zero_add, row_cell S2.out]; simpa using hu
          go_wp2_with (first | refine wpList_load_part a29 [.int .i64 (k : Int), .int .i64 ((x : Int) / 128 % 32), .int .i64 ((x : Int) / 32768 % 32), .int .i64 0, .int .i64 im] rfl _ rfl rfl rfl HLD.out ?_ | refine wpList_store_row a29 _ _ rfl rfl rfl rfl rfl Q2.out rfl rfl rfl ?_)
          refine bodyPost_ret (ret_cell1 rfl a29 rfl (by rw [row_setRow, if_pos rfl, Q2.out]; rfl) rfl) rfl ?_
          refine ⟨.inl ⟨k, HK1.out, HK2.out, HFIT.out, ?_⟩, K2.out.setRow (Or.inr (by have := HRW.out; omega)) _⟩
          unfold resA
          rw [← HFR.out, HIM.out]
          show Ending.returned (.agg #[.int .i64 (k : Int), .int .i64 ((x : Int) / 128 % 32), .int .i64 ((x : Int) / 32768 % 32), .int .i64 0, .int .i64 (immL 90 x)]) = .returned (.agg #[.int .i64 (k : Int), .int .i64 ((rdN x : Nat) : Int), .int .i64 ((rs1N x : Nat) : Int), .int .i64 ((0 : Nat) : Int), .int .i64 (immL 90 x)])
          rw [rdN_i, rs1N_i]
          try rfl
        · have hs : strB 70 = ⟨#[70]⟩ := rfl
          rw [hs]
          clear hs
          go_upto_region 14 with (fail)
          have HLD : Hid (∀ (j : Nat) (u : Value), [.int .i64 (k : Int), .int .i64 0, .int .i64 0, .int .i64 0, .int .i64 im][j]? = some u → Z.cell? ⟨C, 0 + j, none⟩ = some u) := Lib.hid fun j u hu => by
            rw [Nat.zero_add, row_cell R0.out]; simpa using hu
          go_wp2_with (first | refine wpList_load_part a29 [.int .i64 (k : Int), .int .i64 0, .int .i64 0, .int .i64 0, .int .i64 im] rfl _ rfl rfl rfl HLD.out ?_ | refine wpList_store_row a29 _ _ rfl rfl rfl rfl rfl HRZ.out rfl rfl rfl ?_)
          refine bodyPost_ret (ret_cell1 rfl a29 rfl (by rw [row_setRow, if_pos rfl, HRZ.out]; rfl) rfl) rfl ?_
          refine ⟨.inl ⟨k, HK1.out, HK2.out, HFIT.out, ?_⟩, HZC.out.setRow (Or.inr (by have := HRW.out; omega)) _⟩
          unfold resA
          rw [← HFR.out, HIM.out]
          show Ending.returned (.agg #[.int .i64 (k : Int), .int .i64 0, .int .i64 0, .int .i64 0, .int .i64 (immL 70 x)]) = .returned (.agg #[.int .i64 (k : Int), .int .i64 ((0 : Nat) : Int), .int .i64 ((0 : Nat) : Int), .int .i64 ((0 : Nat) : Int), .int .i64 (immL 70 x)])
          rfl
      · have n1 : ((a : Int) != (W : Int)) = true := by simp; omega
        have n2 : ((a : Int) == (W : Int)) = false := by simp; omega
        have n3 : (a = W) = False := by simp; omega
        have hwk : wrap64 ((k : Int) + 1) = ((k + 1 : Nat) : Int) := by rw [IntWalk.wrap64_in _ ⟨by omega, by omega⟩]; simp
        have HWK := Lib.hid hwk
        have HN1 : Hid (∀ j, 1 ≤ j → j < k + 1 → ¬ fitsK x j) := Lib.hid fun j h1 h2 => by
          by_cases hj : j < k
          · exact HNO.out j h1 hj
          · obtain rfl : j = k := by omega
            exact fun h => hf (HFT.out.1 h)
        clear hf hwk cf cw hand
        go_wp2
        try rw [HWK.out]
        refine ⟨⟨k + 1, by omega, HK2.out, by first | rfl | go_num, HCR.out.drew, HN1.out⟩, ?_⟩
        simp only [intOf]; have := HK2.out; omega
    · obtain rfl : k = 57 := by omega
      have dk : decide (((57 : Nat) : Int) < 57) = false := by simp
      clear hk hk1
      go_wp2_with (refine wpList_store_row a29 _ _ rfl rfl rfl rfl rfl HR1.out rfl rfl rfl ?_)
      refine bodyPost_ret (ret_cell1 rfl a29 rfl (by rw [row_setRow, if_pos rfl, HR1.out]; rfl) rfl) rfl ?_
      exact ⟨.inr ⟨HNO.out, rfl⟩, HC1.out.setRow (Or.inr (by have := HRW.out; omega)) _⟩
end Go.Proofs.L
