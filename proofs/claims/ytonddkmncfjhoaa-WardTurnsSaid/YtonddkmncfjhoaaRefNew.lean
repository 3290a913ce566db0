/- Proved here: lemmas and contracts (RefNew) for the laws of this seat, for all values of the stated types; no further condition. -/
import Derived.Test.YtonddkmncfjhoaaRefSet
open Go Go.RowKit Go.Lib
namespace Go.Proofs.L
set_option maxHeartbeats 1600000 in
theorem rnew_in (sb so len cap : Nat) (E : Nat → Nat) (w : World) (h4 : len ≤ 4) (h0 : 0 < len) (hcell : ∀ k, k < len → w.cell? ⟨sb, so + k, none⟩ = some (.int .u32 (E k : Int))) :
    Calls Try.prog 8 #[.slice (some ⟨sb, so, none⟩) len cap] w fun e w' => e = .returned (.pointer (some ⟨w.heap.size, 0, none⟩)) ∧ SetI w w' w.heap.size (List.range len) [] (entSta E) := by
  obtain ⟨i0, hi0, hz0, hz1, hz2⟩ := info_parts info54
  obtain ⟨B, hB⟩ : ∃ B, B = w.heap.size := ⟨_, rfl⟩
  rw [← hB]
  obtain ⟨V, hV⟩ : ∃ V, V = (w.alloc (.cells #[.slice none 0 0, .slice none 0 0] 52)) := ⟨_, rfl⟩
  have hCV : Chg [] w V := by rw [hV]; exact ((Chg.refl _ _).alloc _)
  have hI0 : SetI w V B [] [] (entSta E) := ⟨⟨.slice none 0 0, .slice none 0 0, ⟨by rw [hV]; exact row_alloc_at _ _ _ _ hB, win_nil _ _, win_nil _ _, by simp [Value.ownBlock], by simp [Value.ownBlock], by simp [Value.ownBlock]⟩, by simp [Value.ownBlock], by simp [Value.ownBlock]⟩, hCV, by omega⟩
  have HI0 := Lib.hid hI0
  have HCL := Lib.hid hcell
  have HV := Lib.hid hV
  have HB := Lib.hid hB
  have H4 := Lib.hid h4
  clear hcell hI0 hCV hV hB h0
  go_enter Try.func8, Try.ntmps8
  go_upto_region 2 with (fail)
  rw [← HB.out, ← HV.out]
  go_wp2_with fail
  go_loopw [4] (fun i wr => ∃ k : Nat, k ≤ len ∧ i = .int .i64 k ∧ SetI w wr B (List.range k) [] (entSta E)) (fun i _ => len - (intOf i).toNat)
  case atStart => exact ⟨0, by omega, rfl, HI0.out⟩
  case round =>
    obtain ⟨k, hk, rfl, hI⟩ := hrel
    have HI := Lib.hid hI
    clear hI
    by_cases hk2 : k < len
    · have dk : decide ((k : Int) < (len : Int)) = true := by simp; omega
      have hkI : (k : Int) < (len : Int) := by omega
      obtain ⟨L, hL⟩ : ∃ L, L = entSta E := ⟨_, rfl⟩
      rw [← hL] at HI
      rw [← hL]
      have HLE := Lib.hid hL
      have ce : wr.cell? ⟨sb, so + k, none⟩ = some (.int .u32 (E k : Int)) := by
        rw [World.cell?_of_block (w := w) (HI.out.chg.block sb (World.block_lt_of_cell? w _ (HCL.out k hk2)) (by simp))]; exact HCL.out k hk2
      obtain ⟨vr1, vg1, hRw, ho1, ho2⟩ := HI.out.ex
      obtain ⟨p1, k1, hv1⟩ := win_sl hRw.r
      have c0 := hRw.c0
      have hl1 : (List.range k).length = k := by simp
      rw [hv1, hl1] at c0
      rw [hl1] at hv1
      have HV1 := Lib.hid hv1
      have HRW := Lib.hid hRw
      have HO1 := Lib.hid ho1
      have HO2 := Lib.hid ho2
      clear hRw hv1 ho1 ho2 hl1 hL
      have hst : stL (L k) = [.int .i64 0, .int .u32 0, .int .u32 (E k : Int)] ++ (List.range 32).map fun _ => .int .u32 0 := by rw [HLE.out]; rfl
      have HOL : Hid (oneL L k = .int .i64 (k : Int) :: stL (L k)) := Lib.hid rfl
      have HST := Lib.hid hst
      have hl36 := oneL_len L k
      have HM4 : Hid (k ≤ 4) := Lib.hid (by have := H4.out; omega)
      clear hst
      go_upto_region 5 with (fail)
      refine wp_region_C (fun w' => w'.cell? ⟨B, 0, none⟩ = some (.slice p1 k k1) ∧ w'.cell? ⟨sb, so + k, none⟩ = some (.int .u32 (E k : Int))) [(0, 0), (1, 0), (2, 0), (3, 0), (4, 1), (5, 0), (6, 0), (7, 0), (8, 0), (9, 1), (10, 0), (11, 0), (12, 2), (13, 3), (14, 0), (15, 0), (16, 3)] rfl (by kernel_rfl) ?hSB ?hTB
      case hSB => exact ⟨c0, ce⟩
      refine wpT_pureD (v := ?_) (some 13) rfl rfl (by rfl) (fun w' => ?_) ?_
      rotate_left
      · (go_simp; try with_reducible rfl)
      try simp only [Act.put, List.setIfInBounds_toArray, List.set_cons_zero, List.set_cons_succ]
      refine wpT_pureD (v := ?_) (some 14) rfl rfl (by rfl) (fun w' => ?_) ?_
      rotate_left
      · (go_simp; try with_reducible rfl)
      try simp only [Act.put, List.setIfInBounds_toArray, List.set_cons_zero, List.set_cons_succ]
      refine wpT_pureD (v := ?_) (some 15) rfl rfl (by rfl) (fun w' => ?_) ?_
      rotate_left
      · (go_simp; try with_reducible rfl)
      try simp only [Act.put, List.setIfInBounds_toArray, List.set_cons_zero, List.set_cons_succ]
      refine wpT_pureD (v := ?_) (some 16) rfl rfl (by rfl) (fun w' => ?_) ?_
      rotate_left
      · (go_simp; try with_reducible rfl)
      try simp only [Act.put, List.setIfInBounds_toArray, List.set_cons_zero, List.set_cons_succ]
      refine wpT_readD (v := ?_) (some 17) rfl rfl (by rfl) (fun w' hw => ?_) ?_
      rotate_left
      · (obtain ⟨q0, q1⟩ := hw; go_simp; try with_reducible rfl)
      try simp only [Act.put, List.setIfInBounds_toArray, List.set_cons_zero, List.set_cons_succ]
      refine wpT_pureD (v := ?_) (some 18) rfl rfl (by rfl) (fun w' => ?_) ?_
      rotate_left
      · (go_simp; try with_reducible rfl)
      try simp only [Act.put, List.setIfInBounds_toArray, List.set_cons_zero, List.set_cons_succ]
      refine wpT_pureD (v := ?_) (some 19) rfl rfl (by rfl) (fun w' => ?_) ?_
      rotate_left
      · (go_simp; try with_reducible rfl)
      try simp only [Act.put, List.setIfInBounds_toArray, List.set_cons_zero, List.set_cons_succ]
      refine wpT_pureD (v := ?_) (some 20) rfl rfl (by rfl) (fun w' => ?_) ?_
      rotate_left
      · (go_simp; try with_reducible rfl)
      try simp only [Act.put, List.setIfInBounds_toArray, List.set_cons_zero, List.set_cons_succ]
      refine wpT_pureD (v := ?_) (some 21) rfl rfl (by rfl) (fun w' => ?_) ?_
      rotate_left
      · (go_simp; try with_reducible rfl)
      try simp only [Act.put, List.setIfInBounds_toArray, List.set_cons_zero, List.set_cons_succ]
      refine wpT_readD (v := ?_) (some 22) rfl rfl (by rfl) (fun w' hw => ?_) ?_
      rotate_left
      · (obtain ⟨q0, q1⟩ := hw; go_simp; try with_reducible rfl)
      try simp only [Act.put, List.setIfInBounds_toArray, List.set_cons_zero, List.set_cons_succ]
      refine wpT_pureD (v := ?_) (some 23) rfl rfl (by rfl) (fun w' => ?_) ?_
      rotate_left
      · (go_simp; try with_reducible rfl)
      try simp only [Act.put, List.setIfInBounds_toArray, List.set_cons_zero, List.set_cons_succ]
      refine wpT_pureD (v := ?_) (some 24) rfl rfl (by rfl) (fun w' => ?_) ?_
      rotate_left
      · (go_simp; try with_reducible rfl)
      try simp only [Act.put, List.setIfInBounds_toArray, List.set_cons_zero, List.set_cons_succ]
      have hlit : (#[.int .i64 (k : Int), .int .i64 0, .int .u32 0, .int .u32 (E k : Int), .int .u32 0, .int .u32 0, .int .u32 0, .int .u32 0, .int .u32 0, .int .u32 0, .int .u32 0, .int .u32 0, .int .u32 0, .int .u32 0, .int .u32 0, .int .u32 0, .int .u32 0, .int .u32 0, .int .u32 0, .int .u32 0, .int .u32 0, .int .u32 0, .int .u32 0, .int .u32 0, .int .u32 0, .int .u32 0, .int .u32 0, .int .u32 0, .int .u32 0, .int .u32 0, .int .u32 0, .int .u32 0, .int .u32 0, .int .u32 0, .int .u32 0, .int .u32 0] : Array Value) = (oneL L k).toArray := by rw [HLE.out]; rfl
      rw [hlit]
      clear hlit
      try simp only [Act.put, List.setIfInBounds_toArray, List.set_cons_zero, List.set_cons_succ]
      refine wpT_eff rfl (by rfl) (fun K hK => ?_)
      go_wp2_with fail
      rw [fold_zip _ _ (by rw [hl36]; rfl)]
      have hZU : Chg [] wr (wr.alloc (.cells (oneL L k).toArray 54)).drew := ((Chg.refl [] wr).alloc _).drew
      have h2 := (win_one (w := wr) (oneL L k) 54 hl36).keep ((Chg.refl [] _).drew) (by simp)
      obtain ⟨H, hH⟩ : ∃ H, H = wr.heap.size := ⟨_, rfl⟩
      obtain ⟨U, hU⟩ : ∃ U, U = (wr.alloc (.cells (oneL L k).toArray 54)).drew := ⟨_, rfl⟩
      rw [← hU] at h2 hZU
      rw [← hH] at h2
      rw [← hU, ← hH]
      have HZU := Lib.hid hZU
      have H2 := Lib.hid h2
      have hS : U.cell? ⟨B, 0, none⟩ = some (Value.slice p1 k k1) ∧ U.cell? ⟨sb, so + k, none⟩ = some (.int .u32 (E k : Int)) := by
        have hx := HRW.out.keep0 hZU
        refine ⟨by rw [hx.c0, HV1.out], ?_⟩
        rw [World.cell?_of_block (w := wr) (hZU.block sb (by simpa using World.block_lt_of_cell? wr _ ce) (by simp))]
        exact ce
      have HSS := Lib.hid hS
      clear h2 hZU hU hH hS
      refine hK _ _ HSS.out ?_
      clear hK K HSS c0
      refine wpT_brk rfl (by rfl) (fun K hK => ?_)
      have HGW : Hid (Win U 36 (Value.slice p1 k k1) k (ol L (List.range k))) := Lib.hid (by have := (HRW.out.keep0 HZU.out).r; rw [HV1.out] at this; simpa using this)
      refine wpList_append_any rfl _ _ 50 rfl 54 i0 _ 36 152 Try.underlying50 hi0 hz0 hz1 hz2 rfl (Value.slice p1 k k1) k (ol L (List.range k)) rfl HGW.out _ 1 (oneL L k) rfl H2.out (oneL_all L k) (by have := HM4.out; unfold maxLen; omega) (by have := HM4.out; omega) ?_
      intro v3 W3 x1 x2 x3
      obtain ⟨p3, c3, rfl, -⟩ := x1.form
      rw [← HV1.out] at x2 x3
      have hc3 : Chg vr1.ownBlock.toList wr W3 := (chgE HZU.out (by simp)).trans x2
      have hx3 : (Value.slice p3 (k + 1) c3).ownBlock = vr1.ownBlock ∨ ∀ x, (Value.slice p3 (k + 1) c3).ownBlock = some x → wr.heap.size ≤ x := x3.imp id fun h x hx => by
        rw [h] at hx; simp at hx; have := HZU.out.size; omega
      obtain ⟨hs1, hs2⟩ := HRW.out.setR (v' := .slice p3 (k + 1) c3) (rl' := List.range (k + 1)) hc3 (by
        rw [List.range_succ, ← ol_snoc]; simpa using x1) hx3
      have hwZ : w.heap.size ≤ wr.heap.size := HI.out.chg.size
      have hown : ∀ x, (Value.slice p3 (k + 1) c3).ownBlock = some x → w.heap.size ≤ x := fun x hx => by
        rcases hx3 with h | h
        · exact HO1.out x (by rw [← h]; exact hx)
        · have := h x hx; omega
      have hI3 : SetI w (W3.setCell ⟨B, 0, none⟩ (.slice p3 (k + 1) c3)) B (List.range (k + 1)) [] L := by
        refine ⟨⟨_, _, hs1, hown, HO2.out⟩, ?_, HI.out.new⟩
        refine chg_past HI.out.chg hs2 fun x hx => ?_
        rcases List.mem_cons.1 hx with rfl | hx
        · exact HI.out.new
        · exact HO1.out x (by simpa using hx)
      have HI3 := Lib.hid hI3
      have hr3 : W3.row? B = some #[vr1, vg1] := by rw [hc3.row HRW.out.lt (fun hm => HRW.out.nr B (by simpa using hm) rfl)]; exact HRW.out.row
      have y1 : W3.cell? ⟨B, 0, none⟩ = some vr1 := by rw [row_cell hr3]; rfl
      have y2 := row_free hr3 0
      clear x1 x2 x3 hc3 hr3 hx3 hs1 hs2 hwZ hown hI3
      refine wpList_nil ?_
      refine hK _ _ ?_
      clear hK K
      refine wpT_pureD (v := ?_) (some 27) rfl rfl (by rfl) (fun w' => ?_) ?_
      rotate_left
      · (go_simp; try with_reducible rfl)
      try simp only [Act.put, List.setIfInBounds_toArray, List.set_cons_zero, List.set_cons_succ]
      refine wpT_pureD (v := ?_) (some 28) rfl rfl (by rfl) (fun w' => ?_) ?_
      rotate_left
      · (go_simp; try with_reducible rfl)
      try simp only [Act.put, List.setIfInBounds_toArray, List.set_cons_zero, List.set_cons_succ]
      refine wpT_brk rfl (by rfl) (fun K hK => ?_)
      go_wp2_with fail
      refine wpT_end ?_
      clear y1 y2 hl36
      go_wp2
      exact ⟨⟨k + 1, by omega, by go_num, HI3.out⟩, by simp only [intOf]; omega⟩
    · obtain rfl : k = len := by omega
      have dk : decide ((k : Int) < (k : Int)) = false := by simp
      go_wp2
      go_ret
      exact ⟨rfl, HI.out⟩
end Go.Proofs.L
