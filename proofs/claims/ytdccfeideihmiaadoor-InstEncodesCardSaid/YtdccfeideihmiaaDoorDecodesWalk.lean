/- Proved here: lemmas and contracts (DecodesWalk) for the laws of this seat, for all values of the stated types; no further condition. -/
import Derived.Test.YtdccfeideihmiaaDoorRefDecode
import Derived.Test.YtdccfeideihmiaaDoorFit
import Derived.Test.YtdccfeideihmiaaDoorOpen
open Go Go.RowKit Go.Lib
namespace Go.Proofs.L
set_option maxRecDepth 100000 in
theorem like_ok (op rd rs1 rs2 im : Nat) (z : Int) (h : z % 4294967296 = (im : Int)) (w : World) : Calls Tryd.prog 9 #[.agg (insA op rd rs1 rs2 im), .agg #[.int .i64 (op : Int), .int .i64 (rd : Int), .int .i64 (rs1 : Int), .int .i64 (rs2 : Int), .int .i64 z]] w fun e w' => e = .returned (.bool true) ∧ Chg [] w w' := by
  obtain ⟨B, hB⟩ : ∃ B, B = w.heap.size := ⟨_, rfl⟩
  obtain ⟨V, hV⟩ : ∃ V, V = (w.alloc (.cells #[.int .i64 (op : Int), .int .i64 (rd : Int), .int .i64 (rs1 : Int), .int .i64 (rs2 : Int), .int .u32 (im : Int)] 26)).alloc (.cells #[.int .i64 (op : Int), .int .i64 (rd : Int), .int .i64 (rs1 : Int), .int .i64 (rs2 : Int), .int .i64 z] 29) := ⟨_, rfl⟩
  have hcV : Chg [] w V := by rw [hV]; exact ((Chg.refl _ _).alloc _).alloc _
  have r1 : V.row? (B + 1) = some #[.int .i64 (op : Int), .int .i64 (rd : Int), .int .i64 (rs1 : Int), .int .i64 (rs2 : Int), .int .i64 z] := by rw [hV]; exact row_alloc_at _ _ _ _ (by simp [hB])
  have r0 : V.row? B = some #[.int .i64 (op : Int), .int .i64 (rd : Int), .int .i64 (rs1 : Int), .int .i64 (rs2 : Int), .int .u32 (im : Int)] := by rw [hV, row_alloc_past _ _ _ (by simp [hB])]; exact row_alloc_at _ _ _ _ hB
  have a0 : V.cell? ⟨B, 0, none⟩ = some (.int .i64 (op : Int)) := by rw [row_cell r0]; rfl
  have a1 : V.cell? ⟨B, 1, none⟩ = some (.int .i64 (rd : Int)) := by rw [row_cell r0]; rfl
  have a2 : V.cell? ⟨B, 2, none⟩ = some (.int .i64 (rs1 : Int)) := by rw [row_cell r0]; rfl
  have a3 : V.cell? ⟨B, 3, none⟩ = some (.int .i64 (rs2 : Int)) := by rw [row_cell r0]; rfl
  have a4 : V.cell? ⟨B, 4, none⟩ = some (.int .u32 (im : Int)) := by rw [row_cell r0]; rfl
  have b0 : V.cell? ⟨B + 1, 0, none⟩ = some (.int .i64 (op : Int)) := by rw [row_cell r1]; rfl
  have b1 : V.cell? ⟨B + 1, 1, none⟩ = some (.int .i64 (rd : Int)) := by rw [row_cell r1]; rfl
  have b2 : V.cell? ⟨B + 1, 2, none⟩ = some (.int .i64 (rs1 : Int)) := by rw [row_cell r1]; rfl
  have b3 : V.cell? ⟨B + 1, 3, none⟩ = some (.int .i64 (rs2 : Int)) := by rw [row_cell r1]; rfl
  have b4 : V.cell? ⟨B + 1, 4, none⟩ = some (.int .i64 z) := by rw [row_cell r1]; rfl
  have HCV := Lib.hid hcV
  have HV := Lib.hid hV
  have HB := Lib.hid hB
  have hw : IntKind.u32.wrap z = (im : Int) := by rw [u32w]; exact h
  clear r0 r1 hV hcV hB
  unfold insA
  go_enter Tryd.func9, Tryd.ntmps9
  go_upto_region 1 with (fail)
  rw [← HB.out, ← HV.out]
  go_wp2
  go_ret
  exact ⟨rfl, HCV.out⟩
set_option maxRecDepth 100000 in
set_option maxHeartbeats 1600000 in
theorem decodes_walk (x : Nat) (hx : x < 4294967296) (w : World) (hL : LaidOk w) : Calls Tryd.prog 3 #[.int .u32 (x : Int)] w fun e w' => e = .returned (.bool true) ∧ Chg [] w w' := by
  have HF := Lib.hid (fit_ok w hL)
  have HD := Lib.hid (fun w => dec_any x hx w)
  have HR := Lib.hid (fun w => rdec_any x hx w)
  have HX := Lib.hid hx
  obtain ⟨i, hi⟩ : ∃ i, i = decN x := ⟨_, rfl⟩
  rw [← hi] at HD
  have HI := Lib.hid hi
  have hw : wrap64 (x : Int) = (x : Int) := IntWalk.wrap64_in _ ⟨by omega, by omega⟩
  have hw2 : IntKind.i64.wrap (x : Int) = (x : Int) := by rw [IntKind.wrap_i64]; omega
  clear hL hi hx
  go_enter Tryd.func3, Tryd.ntmps3
  go_wp2_with fail
  refine HF.out.mono ?_
  rintro e w0 ⟨rfl, hc0⟩
  have HC0 := Lib.hid hc0
  clear hc0
  go_wp2_with fail
  refine (HD.out w0).mono ?_
  rintro e w1 ⟨rfl, hc1⟩
  have HC1 := Lib.hid (HC0.out.trans hc1)
  clear hc1
  unfold I5.A
  go_wp2_with fail
  refine (HR.out w1).mono ?_
  rintro e w2 ⟨he, hc2⟩
  have HC2 := Lib.hid (HC1.out.trans hc2)
  clear hc2
  rcases he with ⟨k, k1, k2, hk, rfl⟩ | ⟨hno, rfl⟩
  · obtain ⟨e0, e1, e2, e3, e4⟩ := dl_any x k HX.out k1 k2 hk
    rw [← HI.out] at e0 e1 e2 e3 e4
    obtain ⟨z, hz⟩ : ∃ z, z = immL (frmL k) x := ⟨_, rfl⟩
    have hres : resA k x = #[.int .i64 (i.op : Int), .int .i64 (i.rd : Int), .int .i64 (i.rs1 : Int), .int .i64 (i.rs2 : Int), .int .i64 z] := by
      unfold resA
      rw [e0, e1, e2, e3, hz]
    rw [← hz] at e4
    have HL := Lib.hid (like_ok i.op i.rd i.rs1 i.rs2 i.imm z e4.symm w2)
    rw [hres]
    clear e0 e1 e2 e3 e4 hk k1 k2 hw hw2 hz hres
    go_wp2_with fail
    refine HL.out.mono ?_
    rintro e w3 ⟨rfl, hc3⟩
    have HC3 := Lib.hid (HC2.out.trans hc3)
    clear hc3
    go_wp2
    go_ret
    exact ⟨rfl, HC3.out⟩
  · have hz := dl_none x HX.out hno
    rw [← HI.out] at hz
    subst hz
    have HL := Lib.hid (like_ok 0 0 0 0 0 0 rfl w2)
    unfold zeroA
    clear hno hw hw2
    go_wp2_with fail
    refine HL.out.mono ?_
    rintro e w3 ⟨rfl, hc3⟩
    have HC3 := Lib.hid (HC2.out.trans hc3)
    clear hc3
    go_wp2
    go_ret
    exact ⟨rfl, HC3.out⟩
end Go.Proofs.L
namespace Go.Proofs.L
theorem chg_belowD {W w : World} (h : Chg [] W w) : Below W.heap.size W w := h.below (by simp) (Nat.le_refl _)
end Go.Proofs.L
