/- Proved here: lemmas and contracts (Fit) for the laws of this seat, for all values of the stated types; no further condition. -/
import Derived.Test.YtdccfeideihmiaaDoorEncode1
import Derived.Test.YtdccfeideihmiaaDoorList
open Go Go.RowKit Go.Lib
namespace Go.Proofs.L
theorem LaidOk.keep {w w' : World} (h : LaidOk w) (hc : Chg [] w w') : LaidOk w' := fun i c hi => by
  have := h i c hi
  rw [World.cell?_of_block (w := w) (hc.block 0 (World.block_lt_of_cell? w _ this) (by simp))]; exact this
theorem dec_one (w : World) : Calls Tryd.prog 10 #[.int .u32 1048723] w fun e w' => e = .returned (.agg #[.int .i64 19, .int .i64 1, .int .i64 0, .int .i64 0, .int .u32 1]) ∧ Chg [] w w' := dec_any 1048723 (by decide) w
theorem dec_zero (w : World) : Calls Tryd.prog 10 #[.int .u32 0] w fun e w' => e = .returned (.agg #[.int .i64 0, .int .i64 0, .int .i64 0, .int .i64 0, .int .u32 0]) ∧ Chg [] w w' := dec_any 0 (by decide) w
theorem form45 (w : World) : Calls Tryd.prog 15 #[.int .i64 45] w fun e w' => e = .returned (.int .i64 5) ∧ w' = w := form_any 45 w
set_option maxRecDepth 100000 in
theorem fit_ok (w : World) (h : LaidOk w) : Calls Tryd.prog 8 #[] w fun e w' => e = .returned (.bool true) ∧ Chg [] w w' := by
  have H := Lib.hid h
  clear h
  go_enter Tryd.func8, Tryd.ntmps8
  go_wp2_with fail
  refine (dec_one _).mono ?_
  rintro e w1 ⟨rfl, hc1⟩
  obtain ⟨B, hB⟩ : ∃ B, B = w1.heap.size := ⟨_, rfl⟩
  obtain ⟨V, hV⟩ : ∃ V, V = w1.alloc (.cells #[.int .i64 19, .int .i64 1, .int .i64 0, .int .i64 0, .int .u32 1] 26) := ⟨_, rfl⟩
  have hCV : Chg [] w V := by rw [hV]; exact hc1.alloc _
  have rb : V.row? B = some #[.int .i64 19, .int .i64 1, .int .i64 0, .int .i64 0, .int .u32 1] := by rw [hV]; exact row_alloc_at _ _ _ _ hB
  have HE := Lib.hid (encode1 V (H.out.keep hCV))
  have HCV := Lib.hid hCV
  have HRB := Lib.hid rb
  have cb : ∀ W, Chg [] V W → ∀ j u, #[Value.int .i64 19, Value.int .i64 1, Value.int .i64 0, Value.int .i64 0, Value.int .u32 1][j]? = some u → W.cell? ⟨B, j, none⟩ = some u := fun W hW j u hu => by
    rw [row_cell (by rw [hW.row (row_lt rb) (by simp)]; exact rb)]; exact hu
  have HCB := Lib.hid cb
  have v0 := cb V (Chg.refl _ _) 0 _ rfl
  have v1 := cb V (Chg.refl _ _) 1 _ rfl
  have v2 := cb V (Chg.refl _ _) 2 _ rfl
  have v3 := cb V (Chg.refl _ _) 3 _ rfl
  have v4 := cb V (Chg.refl _ _) 4 _ rfl
  clear hc1 hCV rb cb
  go_wp2_with (refine wpList_store_new a26 _ _ rfl rfl rfl rfl rfl rfl rfl rfl ?_)
  rw [← hB, ← hV]
  clear hB hV
  refine HE.out.mono ?_
  rintro e w2 ⟨rfl, hc2⟩
  have u0 := HCB.out w2 hc2 0 _ rfl
  have u1 := HCB.out w2 hc2 1 _ rfl
  have u2 := HCB.out w2 hc2 2 _ rfl
  have u3 := HCB.out w2 hc2 3 _ rfl
  have u4 := HCB.out w2 hc2 4 _ rfl
  have HC2 : Hid (Chg [] w w2) := Lib.hid (HCV.out.trans hc2)
  clear hc2 v0 v1 v2 v3 v4 HE
  go_wp2_with fail
  refine (form45 _).mono ?_
  rintro e w' ⟨rfl, rfl⟩
  clear u0 u1 u2 u3 u4
  go_wp2_with fail
  refine (dec_zero _).mono ?_
  rintro e w3 ⟨rfl, hc3⟩
  have HC3 : Hid (Chg [] w w3) := Lib.hid (HC2.out.trans hc3)
  clear hc3
  go_wp2
  go_ret
  exact ⟨rfl, HC3.out⟩
end Go.Proofs.L
