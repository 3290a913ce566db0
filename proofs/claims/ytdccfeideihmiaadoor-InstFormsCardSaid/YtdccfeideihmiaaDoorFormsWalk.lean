/- Proved here: lemmas and contracts (FormsWalk) for the laws of this seat, for all values of the stated types; no further condition. -/
import Derived.Test.YtdccfeideihmiaaDoorFit
open Go Go.RowKit Go.Lib
namespace Go.Proofs.L
def frmC (op : Nat) : Nat := (opsL.getD op (0, 0)).1
def letL : List Nat := [85, 74, 73, 66, 83, 82, 84, 78, 67, 90]
/-- does letter k fit the operation's? -/
def fitsL (c d : Nat) : Bool := decide (c = d) || (decide (d = 78) && decide (c = 70))
theorem forms_tab : ∀ (op : Nat), op < 57 → 0 < op → ∃ (k : Nat), k < 10 ∧ formN (op : Int) = (k : Int) ∧ fitsL (frmC op) (letL.getD k 0) = true ∧ ∀ (j : Nat), j < k → fitsL (frmC op) (letL.getD j 0) = false := by decide
theorem frmC_lt : ∀ (op : Nat), op < 57 → frmC op < 256 := by decide
theorem letL_lt : ∀ (k : Nat), k < 10 → letL.getD k 0 < 256 ∧ 0 < letL.getD k 0 := by decide
theorem flat2 (i : Nat) (l : List (Nat × Nat)) : (l.flatMap fun p => [Value.string (strB p.1), .int .i64 (p.2 : Int)])[i * 2]? = (l[i]?).map fun p => .string (strB p.1) := by
  induction l generalizing i with
  | nil => simp
  | cons p l ih =>
    cases i with
    | zero => simp
    | succ i =>
      rw [List.flatMap_cons, List.getElem?_append_right (by simp; omega)]
      simpa [show (i + 1) * 2 - 2 = i * 2 by omega] using ih i
theorem listA_get (op : Nat) (h : op < 57) : listA[op * 2]? = some (.string (strB (frmC op))) := by
  unfold listA frmC
  rw [flat2]
  have : op < opsL.length := h
  simp [this]
theorem strB_eq {c d : Nat} (hc : c < 256) (hd : d < 256) (h0 : 0 < d) : ((strB c).toList == (strB d).toList) = decide (c = d) := by
  rw [ByteArray.toList_eq, ByteArray.toList_eq]
  unfold strB
  rw [if_neg (show ¬ d = 0 by omega)]
  by_cases hc0 : c = 0
  · subst hc0
    rw [if_pos rfl]
    have : (decide (0 = d)) = false := by simp; omega
    rw [this]; rfl
  · rw [if_neg hc0]
    rw [Bool.eq_iff_iff]
    simp only [beq_iff_eq, List.cons.injEq, and_true, decide_eq_true_eq]
    constructor
    · intro h
      have := congrArg UInt8.toNat h
      simpa [Nat.mod_eq_of_lt hc, Nat.mod_eq_of_lt hd] using this
    · rintro rfl; rfl
def letA : List Value := letL.map fun c => .string (strB c)
set_option maxRecDepth 100000 in
set_option maxHeartbeats 1600000 in
theorem forms_walk (op : Int) (w : World) (h : LaidOk w) : Calls Tryd.prog 6 #[.int .i64 op] w fun e w' => e = .returned (.bool true) ∧ Below w.heap.size w w' := by
  have H := Lib.hid h
  clear h
  have HFO : Hid (∀ w, Calls Tryd.prog 15 #[.int .i64 op] w fun e w' => e = .returned (.int .i64 (formN op)) ∧ w' = w) := Lib.hid (form_any op)
  by_cases hin : 1 ≤ op ∧ op ≤ 56
  · obtain ⟨m, rfl⟩ : ∃ m : Nat, op = m := ⟨op.toNat, by omega⟩
    have d1 : decide ((m : Int) < 1) = false := by simp; omega
    have d2 : decide ((m : Int) ≥ 57) = false := by simp; omega
    have d3 : decide (57 ≤ (m : Int)) = false := by simp; omega
    have hmI : (m : Int) < 57 := by omega
    obtain ⟨K, hK, hKf, hKm, hKn⟩ := forms_tab m (by omega) (by omega)
    have hcl := frmC_lt m (by omega)
    have hlg := listA_get m (by omega)
    obtain ⟨c, hc⟩ : ∃ c, c = frmC m := ⟨_, rfl⟩
    rw [← hc] at hKm hKn hcl hlg
    rw [hKf] at HFO
    have HKm := Lib.hid hKm
    have HKn := Lib.hid hKn
    have HCL := Lib.hid hcl
    have HK := Lib.hid hK
    clear hin hKm hKn hcl hc hK hKf
    go_enter Tryd.func6, Tryd.ntmps6
    go_wp2_with fail
    refine (fit_ok w H.out).mono ?_
    rintro e w1 ⟨rfl, hc1⟩
    have HC1 := Lib.hid hc1
    clear hc1
    go_wp2_with fail
    refine (list_any w1).mono ?_
    rintro e w2 ⟨rfl, hr2, hc2⟩
    have HC2 : Hid (Chg [] w w2) := Lib.hid (HC1.out.trans hc2)
    obtain ⟨BL, hBL⟩ : ∃ b, b = w1.heap.size := ⟨_, rfl⟩
    rw [← hBL] at hr2 ⊢
    obtain ⟨V, hV⟩ : ∃ V, V = w2.alloc (.cells #[.string ⟨#[85]⟩, .string ⟨#[74]⟩, .string ⟨#[73]⟩, .string ⟨#[66]⟩, .string ⟨#[83]⟩, .string ⟨#[82]⟩, .string ⟨#[84]⟩, .string ⟨#[78]⟩, .string ⟨#[67]⟩, .string ⟨#[90]⟩] 9) := ⟨_, rfl⟩
    have rl : V.row? w2.heap.size = some letA.toArray := by rw [hV]; exact row_alloc_at _ _ _ _ rfl
    have rL : V.row? BL = some listA.toArray := by rw [hV, row_alloc_past _ _ _ (row_lt hr2)]; exact hr2
    have hcm : V.cell? ⟨BL, m * 2, none⟩ = some (.string (strB c)) := by rw [row_cell rL]; simpa using hlg
    have HCV : Hid (Chg [] w V) := Lib.hid (by rw [hV]; exact HC2.out.alloc _)
    obtain ⟨bl, hbl⟩ : ∃ b, b = w2.heap.size := ⟨_, rfl⟩
    rw [← hbl] at rl
    have HRL := Lib.hid rl
    have HV := Lib.hid hV
    have HBL := Lib.hid hbl
    clear hc2 hr2 hBL hlg rL rl hV hbl
    go_wp2_with fail
    rw [← HBL.out, ← HV.out]
    clear HV HBL
    go_loopw [22, 4, 5] (fun i _ _ wr => ∃ k : Nat, k ≤ 10 ∧ i = .int .i64 k ∧ wr = V ∧ ∀ j, j < k → fitsL c (letL.getD j 0) = false) (fun i _ _ _ => 10 - (intOf i).toNat)
    case atStart => exact ⟨0, by omega, rfl, rfl, fun j hj => by omega⟩
    case round =>
      obtain ⟨k, hk, rfl, rfl, hno⟩ := hrel
      have HNO := Lib.hid hno
      clear hno
      have hk2 : k < 10 := by
        rcases Nat.lt_or_ge k 10 with h | h
        · exact h
        · have := HNO.out K (by have := HK.out; omega)
          rw [HKm.out] at this; cases this
      have dk : decide ((k : Int) < 10) = true := by simp; omega
      have hkI : (k : Int) < 10 := by omega
      obtain ⟨hd1, hd0⟩ := letL_lt k hk2
      have ck : wr.cell? ⟨bl, k, none⟩ = some (.string (strB (letL.getD k 0))) := by
        rw [row_cell HRL.out]
        have : letA[k]? = some (.string (strB (letL.getD k 0))) := by
          unfold letA
          have h3 : k < letL.length := hk2
          simp [h3]
        simpa using this
      have e1 : ((strB c).toList == (strB (letL.getD k 0)).toList) = decide (c = letL.getD k 0) := strB_eq HCL.out hd1 hd0
      have e2 : ((strB (letL.getD k 0)).toList == (strB 78).toList) = decide (letL.getD k 0 = 78) := strB_eq hd1 (by decide) (by decide)
      have e3 : ((strB c).toList == (strB 70).toList) = decide (c = 70) := strB_eq HCL.out (by decide) (by decide)
      have hfit : fitsL c (letL.getD k 0) = (decide (c = letL.getD k 0) || (decide (letL.getD k 0 = 78) && decide (c = 70))) := rfl
      have t1 : (strB 78).toList = [78] := by rw [ByteArray.toList_eq]; rfl
      have t2 : (strB 70).toList = [70] := by rw [ByteArray.toList_eq]; rfl
      rw [t1] at e2
      rw [t2] at e3
      obtain ⟨D, hD⟩ : ∃ D, D = strB (letL.getD k 0) := ⟨_, rfl⟩
      obtain ⟨C, hC⟩ : ∃ C, C = strB c := ⟨_, rfl⟩
      rw [← hD] at ck e1 e2
      rw [← hC] at e1 e3 hcm
      have HFIT := Lib.hid hfit
      have HE1 := Lib.hid e1
      have HE2 := Lib.hid e2
      have HE3 := Lib.hid e3
      clear hd1 hd0 hD hC hfit t1 t2 e1 e2 e3
      have fin : ∀ W, W = wr → K = k → Ending.returned (Value.bool ((K : Int) == (k : Int))) = .returned (.bool true) ∧ Below w.heap.size w W := fun W hW hKk => by
        subst hW; subst hKk; exact ⟨by simp, (HCV.out.below (by simp) (Nat.le_refl _))⟩
      have kk : fitsL c (letL.getD k 0) = true → K = k := fun hf => by
        rcases Nat.lt_trichotomy k K with h | h | h
        · have := HKn.out k h; rw [hf] at this; cases this
        · exact h.symm
        · have := HNO.out K h; rw [HKm.out] at this; cases this
      have go : fitsL c (letL.getD k 0) = false → ∀ j, j < k + 1 → fitsL c (letL.getD j 0) = false := fun hf j hj => by
        by_cases hjk : j < k
        · exact HNO.out j hjk
        · obtain rfl : j = k := by omega
          exact hf
      have FIN := Lib.hid fin
      have KK := Lib.hid kk
      have GO := Lib.hid go
      clear fin kk go
      by_cases h1 : c = letL.getD k 0
      · have q1 : (C.toList == D.toList) = true := by rw [HE1.out]; simpa using h1
        have hKk := KK.out (by rw [HFIT.out]; simp [h1])
        have HKk := Lib.hid hKk
        clear h1 hKk
        go_wp2_with fail
        refine (HFO.out _).mono ?_
        rintro e w' ⟨rfl, rfl⟩
        go_wp2
        go_ret
        exact FIN.out _ rfl HKk.out
      · have q1 : (C.toList == D.toList) = false := by rw [HE1.out]; simpa using h1
        by_cases h2 : letL.getD k 0 = 78
        · have q2 : (D.toList == [78]) = true := by rw [HE2.out]; simpa using h2
          by_cases h3 : c = 70
          · have q3 : (C.toList == [70]) = true := by rw [HE3.out]; simpa using h3
            have hKk := KK.out (by rw [HFIT.out, h2, h3]; rfl)
            have HKk := Lib.hid hKk
            clear h1 h2 h3 hKk
            go_wp2_with fail
            refine (HFO.out _).mono ?_
            rintro e w' ⟨rfl, rfl⟩
            go_wp2
            go_ret
            exact FIN.out _ rfl HKk.out
          · have q3 : (C.toList == [70]) = false := by rw [HE3.out]; simpa using h3
            have hg := GO.out (by rw [HFIT.out, decide_eq_false h1, decide_eq_false h3]; simp)
            have HG := Lib.hid hg
            clear h1 h2 h3 hg
            go_wp2
            exact ⟨⟨k + 1, by omega, by go_num, by first | rfl | trivial, HG.out⟩, by simp only [intOf]; omega⟩
        · have q2 : (D.toList == [78]) = false := by rw [HE2.out]; simpa using h2
          have hg := GO.out (by rw [HFIT.out, decide_eq_false h1, decide_eq_false h2]; rfl)
          have HG := Lib.hid hg
          clear h1 h2 hg
          go_wp2
          exact ⟨⟨k + 1, by omega, by go_num, by first | rfl | trivial, HG.out⟩, by simp only [intOf]; omega⟩
  · have hf : formN op = -1 := by
      unfold formN
      repeat' split
      all_goals omega
    rw [hf] at HFO
    have go : ∀ (P : Prop), P → P := fun _ h => h
    by_cases h1 : op < 1
    · have d1 : decide (op < 1) = true := by simpa using h1
      clear hf hin
      go_enter Tryd.func6, Tryd.ntmps6
      go_wp2_with fail
      refine (fit_ok w H.out).mono ?_
      rintro e w1 ⟨rfl, hc1⟩
      have HC1 := Lib.hid hc1
      clear hc1
      go_wp2_with fail
      refine (list_any w1).mono ?_
      rintro e w2 ⟨rfl, hr2, hc2⟩
      have HC2 : Hid (Chg [] w w2) := Lib.hid (HC1.out.trans hc2)
      clear hc2 hr2
      go_wp2_with fail
      refine (HFO.out _).mono ?_
      rintro e w' ⟨rfl, rfl⟩
      go_wp2
      go_ret
      exact ⟨rfl, HC2.out.below (by simp) (Nat.le_refl _)⟩
    · have d1 : decide (op < 1) = false := by simpa using h1
      have d2 : decide (op ≥ 57) = true := by simp; omega
      have d3 : decide (57 ≤ op) = true := by simp; omega
      clear hf hin
      go_enter Tryd.func6, Tryd.ntmps6
      go_wp2_with fail
      refine (fit_ok w H.out).mono ?_
      rintro e w1 ⟨rfl, hc1⟩
      have HC1 := Lib.hid hc1
      clear hc1
      go_wp2_with fail
      refine (list_any w1).mono ?_
      rintro e w2 ⟨rfl, hr2, hc2⟩
      have HC2 : Hid (Chg [] w w2) := Lib.hid (HC1.out.trans hc2)
      clear hc2 hr2
      go_wp2_with fail
      refine (HFO.out _).mono ?_
      rintro e w' ⟨rfl, rfl⟩
      go_wp2
      go_ret
      exact ⟨rfl, HC2.out.below (by simp) (Nat.le_refl _)⟩
end Go.Proofs.L
