/- Proved here: lemmas and contracts (R14x25) for the laws of this seat, for all values of the stated types; no further condition. -/
import Derived.Test.YtjiiojbenbldlaaR14x1
open Go Go.RowKit Go.Lib
namespace Go.Proofs.L
attribute [local irreducible] wpT
set_option maxRecDepth 100000 in
set_option maxHeartbeats 16000000 in
theorem one_25 {w : World} {J mb : Nat} {v : Jv} {Rs : List Rl} {Ys : List Nat} {Ss : List Sp} {f : Nat → Nat} {ra add : Nat} {sy : Int} (hH : OneH w J mb v Rs Ys Ss f) (hra : ra < 4294967296) (hadd : add < 4294967296) :
    Calls Try.prog 23 #[.pointer (some ⟨J, 0, none⟩), .agg (RlC ⟨ra, 25, sy, add⟩).toArray] w (OneQ w mb (oneN v.bias Rs Ys Ss f ⟨ra, 25, sy, add⟩)) := by
  obtain ⟨X, hX⟩ : ∃ X, X = w.alloc (.cells (RlC ⟨ra, 25, sy, add⟩).toArray 32) := ⟨_, rfl⟩
  obtain ⟨B, hB⟩ : ∃ B, B = w.heap.size := ⟨_, rfl⟩
  have hrX : X.row? B = some (RlC ⟨ra, 25, sy, add⟩).toArray := by rw [hX, hB]; exact row_alloc_at _ _ _ _ rfl
  have hcX : Chg [] w X := by rw [hX]; exact (Chg.refl _ _).alloc _
  have HH : Hid (∀ W, Chg [] X W → OneH W J mb v Rs Ys Ss f) := Lib.hid fun W hW => (hH.keep hcX).keep hW
  have HR : Hid (∀ W, Chg [] X W → W.row? B = some (RlC ⟨ra, 25, sy, add⟩).toArray) := Lib.hid fun W hW => by rw [hW.row (row_lt hrX) (by simp)]; exact hrX
  have HQ : Hid (∀ W, Chg [] X W → W.cell? ⟨B, 0, none⟩ = some (.int .u32 (ra : Int)) ∧ W.cell? ⟨B, 1, none⟩ = some (.int .i64 25) ∧ W.cell? ⟨B, 2, none⟩ = some (.int .i64 sy) ∧ W.cell? ⟨B, 3, none⟩ = some (.int .u32 (add : Int))) := Lib.hid fun W hW => ⟨by rw [row_cell (HR.out W hW)]; rfl, by rw [row_cell (HR.out W hW)]; rfl, by rw [row_cell (HR.out W hW)]; rfl, by rw [row_cell (HR.out W hW)]; rfl⟩
  have HCX := Lib.hid hcX
  have HX := Lib.hid hX
  have HB := Lib.hid hB
  obtain ⟨p, hp⟩ : ∃ p, p = (v.bias + ra) % 4294967296 := ⟨_, rfl⟩
  have HPL : Hid (p < 4294967296) := Lib.hid (by omega)
  have wp := addw_wrap hp
  have HF := Lib.hid hH.hf
  have HV : Hid (oneN v.bias Rs Ys Ss f ⟨ra, 25, sy, add⟩ = if sizeN 25 = 0 ∨ withinN Ss p (sizeN 25) = false then (13, f) else if ((25 : Int) ≠ 1 ∧ (25 : Int) ≠ 3 ∧ p % 4 ≠ 0) ∨ ((25 : Int) = 3 ∧ sy ≠ 0) then (13, f) else if (ldN f p).2 ≠ 0 then ((ldN f p).2, f) else tailN v.bias Rs Ys f p 25 ((symN Ys v.bias sy + add) % 4294967296) (ldN f p).1 add) := Lib.hid (by rw [hp]; rfl)
  have HADD := Lib.hid hadd
  clear hX hB hrX hcX hH hp hadd hra
  go_enter Try.func23, Try.ntmps23
  go_upto_region 1 with (fail)
  rw [← HX.out, ← HB.out]
  clear HX HB
  refine wp_region_C (fun w' => w'.cell? ⟨J, 4, none⟩ = some (.int .u32 (v.bias : Int)) ∧ w'.cell? ⟨B, 0, none⟩ = some (.int .u32 (ra : Int))) [(0, 0), (1, 0), (2, 0), (3, 1), (4, 0), (5, 1), (6, 0), (7, 0)] rfl (by kernel_rfl) ?hSA ?hTA
  case hSA => exact ⟨(HH.out X (Chg.refl _ _)).job.c4, (HQ.out X (Chg.refl _ _)).1⟩
  refine wpT_pureD (v := ?_) (some 15) rfl rfl (by rfl) (fun w' => ?_) ?_
  rotate_left
  · (go_simp; try with_reducible rfl)
  try simp only [Act.put, List.setIfInBounds_toArray, List.set_cons_zero, List.set_cons_succ]
  refine wpT_pureD (v := ?_) (some 16) rfl rfl (by rfl) (fun w' => ?_) ?_
  rotate_left
  · (go_simp; try with_reducible rfl)
  try simp only [Act.put, List.setIfInBounds_toArray, List.set_cons_zero, List.set_cons_succ]
  refine wpT_pureD (v := ?_) (some 17) rfl rfl (by rfl) (fun w' => ?_) ?_
  rotate_left
  · (go_simp; try with_reducible rfl)
  try simp only [Act.put, List.setIfInBounds_toArray, List.set_cons_zero, List.set_cons_succ]
  refine wpT_readD (v := ?_) (some 18) rfl rfl (by rfl) (fun w' hw => ?_) ?_
  rotate_left
  · (obtain ⟨q0, q1⟩ := hw; go_simp; try with_reducible rfl)
  try simp only [Act.put, List.setIfInBounds_toArray, List.set_cons_zero, List.set_cons_succ]
  refine wpT_pureD (v := ?_) (some 19) rfl rfl (by rfl) (fun w' => ?_) ?_
  rotate_left
  · (go_simp; try with_reducible rfl)
  try simp only [Act.put, List.setIfInBounds_toArray, List.set_cons_zero, List.set_cons_succ]
  refine wpT_readD (v := ?_) (some 20) rfl rfl (by rfl) (fun w' hw => ?_) ?_
  rotate_left
  · (obtain ⟨q0, q1⟩ := hw; go_simp; try with_reducible rfl)
  try simp only [Act.put, List.setIfInBounds_toArray, List.set_cons_zero, List.set_cons_succ]
  refine wpT_pureD (v := ?_) (some 21) rfl rfl (by rfl) (fun w' => ?_) ?_
  rotate_left
  · (go_simp; try with_reducible rfl)
  try simp only [Act.put, List.setIfInBounds_toArray, List.set_cons_zero, List.set_cons_succ]
  refine wpT_pureD (v := ?_) (some 5) rfl rfl (by rfl) (fun w' => ?_) ?_
  rotate_left
  · (go_simp; try with_reducible rfl)
  try simp only [Act.put, List.setIfInBounds_toArray, List.set_cons_zero, List.set_cons_succ]
  refine wpT_end ?_
  clear wp
  obtain ⟨Y, hY⟩ : ∃ Y, Y = X.drew := ⟨_, rfl⟩
  have HY : Hid (Chg [] X Y) := Lib.hid (by rw [hY]; exact (Chg.refl _ _).drew)
  rw [← hY]
  clear hY
  have c1 : Y.cell? ⟨B, 1, none⟩ = some (.int .i64 25) := (HQ.out Y HY.out).2.1
  go_wp2_with fail
  refine (size_any 25 Y).mono ?_
  rintro e w' ⟨rfl, hw⟩
  obtain rfl := hw.symm
  rw [show ((sizeN 25 : Nat) : Int) = 4 from rfl]
  go_wp2_with fail
  refine (jwithin_any (HH.out Y HY.out).job p 4 HPL.out (by decide) (HH.out Y HY.out).ns).mono ?_
  rintro e w1 ⟨rfl, hc1⟩
  have HC1 := Lib.hid (HY.out.trans hc1)
  clear hc1 c1
  obtain ⟨b, hb⟩ : ∃ b, b = withinN Ss p 4 := ⟨_, rfl⟩
  have HB0 := Lib.hid hb
  rw [← hb]
  clear hb
  have c1 := (HQ.out w1 HC1.out).2.1
  have c2 := (HQ.out w1 HC1.out).2.2.1
  cases b
  · have HW : Hid (oneN v.bias Rs Ys Ss f ⟨ra, 25, sy, add⟩ = (13, f)) := Lib.hid (by rw [HV.out, if_pos (.inr HB0.out.symm)])
    go_wp2
    go_ret
    exact ⟨by rw [HW.out]; rfl, by rw [HW.out]; exact (HH.out w1 HC1.out).row, chg_any (HCX.out.trans HC1.out)⟩
  · obtain ⟨m, hm⟩ : ∃ m, m = p % 4 := ⟨_, rfl⟩
    have e3 : (p : Int) % 4 = (m : Int) := by omega
    have e4 : (p : Int).tmod 4 = (m : Int) := by rw [Int.tmod_eq_emod_of_nonneg (by omega)]; exact e3
    have HM := Lib.hid hm
    clear hm
    by_cases hm0 : m = 0
    · have mI : (m : Int) = 0 := by omega
      have HW : Hid (oneN v.bias Rs Ys Ss f ⟨ra, 25, sy, add⟩ = if (ldN f p).2 ≠ 0 then ((ldN f p).2, f) else tailN v.bias Rs Ys f p 25 ((symN Ys v.bias sy + add) % 4294967296) (ldN f p).1 add) := Lib.hid (by rw [HV.out, if_neg (by rw [show sizeN 25 = 4 from rfl, ← HB0.out]; decide), if_neg (by rw [← HM.out]; rintro (⟨_, _, h⟩ | ⟨h, _⟩); exact h hm0; exact absurd h (by decide))])
      have HM0 := Lib.hid hm0
      clear hm0
      go_upto_region 6 with (fail)
      clear c1 c2

      obtain ⟨y1, hy1⟩ : ∃ y, y = symN Ys v.bias sy := ⟨_, rfl⟩
      obtain ⟨val, hval⟩ : ∃ z, z = (y1 + add) % 4294967296 := ⟨_, rfl⟩
      have u1 := addw_wrap hval
      have HVL : Hid (val < 4294967296) := Lib.hid (by omega)
      have HY1 := Lib.hid hy1
      rw [← hy1, ← hval] at HW
      clear hy1 hval
      refine wp_region_C (fun w' => Chg [] X w' ∧ w'.cell? ⟨B, 2, none⟩ = some (.int .i64 sy) ∧ w'.cell? ⟨B, 3, none⟩ = some (.int .u32 (add : Int))) [(0, 0), (1, 0), (2, 1), (4, 0), (5, 1), (3, 2), (6, 0), (7, 0)] rfl (by kernel_rfl) ?hSB ?hTB
      case hSB => exact ⟨HC1.out.drew, (HQ.out w1 HC1.out).2.2⟩
      refine wpT_pureD (v := ?_) (some 60) rfl rfl (by rfl) (fun w' => ?_) ?_
      rotate_left
      · (go_simp; try with_reducible rfl)
      try simp only [Act.put, List.setIfInBounds_toArray, List.set_cons_zero, List.set_cons_succ]
      refine wpT_pureD (v := ?_) (some 61) rfl rfl (by rfl) (fun w' => ?_) ?_
      rotate_left
      · (go_simp; try with_reducible rfl)
      try simp only [Act.put, List.setIfInBounds_toArray, List.set_cons_zero, List.set_cons_succ]
      refine wpT_readD (v := ?_) (some 62) rfl rfl (by rfl) (fun w' hw => ?_) ?_
      rotate_left
      · (obtain ⟨q0, q1, q2⟩ := hw; go_simp; try with_reducible rfl)
      try simp only [Act.put, List.setIfInBounds_toArray, List.set_cons_zero, List.set_cons_succ]
      refine wpT_pureD (v := ?_) (some 64) rfl rfl (by rfl) (fun w' => ?_) ?_
      rotate_left
      · (go_simp; try with_reducible rfl)
      try simp only [Act.put, List.setIfInBounds_toArray, List.set_cons_zero, List.set_cons_succ]
      refine wpT_readD (v := ?_) (some 65) rfl rfl (by rfl) (fun w' hw => ?_) ?_
      rotate_left
      · (obtain ⟨q0, q1, q2⟩ := hw; go_simp; try with_reducible rfl)
      try simp only [Act.put, List.setIfInBounds_toArray, List.set_cons_zero, List.set_cons_succ]
      refine wpT_eff rfl (by rfl) (fun K hK => ?_)
      go_wp2_with fail
      refine (jsymbol_any (HH.out _ (HC1.out.drew)).job sy).mono ?_
      rintro e w3 ⟨rfl, hc3⟩
      rw [← HY1.out]
      go_wp2_with fail
      refine hK _ _ ⟨HC1.out.drew.trans hc3, (HQ.out w3 (HC1.out.drew.trans hc3)).2.2⟩ ?_
      clear hK K
      refine wpT_pureD (v := ?_) (some 66) rfl rfl (by rfl) (fun w' => ?_) ?_
      rotate_left
      · (go_simp; try with_reducible rfl)
      try simp only [Act.put, List.setIfInBounds_toArray, List.set_cons_zero, List.set_cons_succ]
      refine wpT_pureD (v := ?_) (some 8) rfl rfl (by rfl) (fun w' => ?_) ?_
      rotate_left
      · (go_simp; try with_reducible rfl)
      try simp only [Act.put, List.setIfInBounds_toArray, List.set_cons_zero, List.set_cons_succ]
      refine wpT_end ?_
      clear u1
      have HC3 := Lib.hid (HC1.out.drew.trans hc3)
      clear hc3
      have c6 := (HH.out _ HC3.out).c6
      have mL : ∀ w, Sem.run Try.prog (method 217 33 (.pointer (some ⟨mb, 0, none⟩)) "Load") w = .ok (13, .pointer (some ⟨mb, 0, none⟩)) w := fun w => mLoad _ w
      go_wp2_with fail
      clear mL c6
      refine (load4_any f HF.out p mb HPL.out w3 (HH.out _ HC3.out).row).mono ?_
      rintro e w4 ⟨rfl, hc4⟩
      have HC4 := Lib.hid (HC3.out.trans hc4)
      clear hc4
      have hlt := ldN_lt f HF.out p
      have herr := ldN_err f p
      obtain ⟨⟨wd, er⟩, hld⟩ : ∃ q, q = ldN f p := ⟨_, rfl⟩
      rw [← hld] at HW hlt herr ⊢
      simp only [] at HW hlt herr ⊢
      have HWL := Lib.hid hlt
      have HLD := Lib.hid hld
      clear hlt hld
      rcases herr with rfl | rfl
      · have HW2 : Hid (oneN v.bias Rs Ys Ss f ⟨ra, 25, sy, add⟩ = tailN v.bias Rs Ys f p 25 val wd add) := Lib.hid (by rw [HW.out, if_neg (by simp)])
        have c1 := (HQ.out w4 HC4.out).2.1
        go_wp2_with fail
        clear c1
        refine (jpair_any (HH.out w4 HC4.out).job val HVL.out (HH.out w4 HC4.out).nr).mono ?_
        rintro e w5 ⟨rfl, hc5⟩
        have HC5 := Lib.hid (HC4.out.trans hc5)
        clear hc5
        have HW4 : Hid (oneN v.bias Rs Ys Ss f ⟨ra, 25, sy, add⟩ = if (pairN Rs Ys v.bias val).2 = false ∨ add ≠ 0 then (13, f) else finN f p (setS wd (pairN Rs Ys v.bias val).1)) := Lib.hid (by rw [HW2.out]; rfl)
        have hxl : (pairN Rs Ys v.bias val).1 < 4294967296 := pairN_lt _ _ _ _
        obtain ⟨⟨x, ok⟩, hx⟩ : ∃ q, q = pairN Rs Ys v.bias val := ⟨_, rfl⟩
        rw [← hx] at HW4 hxl ⊢
        simp only [] at HW4 hxl ⊢
        have HXL := Lib.hid hxl
        clear hx hxl
        have c3 := (HQ.out w5 HC5.out).2.2.2
        have c1 := (HQ.out w5 HC5.out).2.1
        cases ok
        · have HW3 : Hid (oneN v.bias Rs Ys Ss f ⟨ra, 25, sy, add⟩ = (13, f)) := Lib.hid (by rw [HW4.out, if_pos (.inl rfl)])
          go_wp2
          go_ret
          exact ⟨by rw [HW3.out]; rfl, by rw [HW3.out]; exact (HH.out w5 HC5.out).row, chg_any (HCX.out.trans HC5.out)⟩
        · by_cases ha0 : add = 0
          · obtain ⟨y, hy⟩ : ∃ y, y = setS wd x := ⟨_, rfl⟩
            have HYL : Hid (y < 4294967296) := Lib.hid (by rw [hy]; exact setS_lt _ _)
            have HW3 : Hid (oneN v.bias Rs Ys Ss f ⟨ra, 25, sy, add⟩ = finN f p y) := Lib.hid (by rw [HW4.out, if_neg (by rintro (h | h); cases h; exact h ha0), hy])
            have HYE := Lib.hid hy
            have aI : (add : Int) = 0 := by omega
            have HA0 := Lib.hid ha0
            clear hy ha0
            go_wp2_with fail
            clear aI
            refine (setI_any wd x w5).mono ?_
            rintro e w' ⟨rfl, hw⟩
            obtain rfl := hw.symm
            have c6 := (HH.out _ HC5.out).c6
            have mL : ∀ w, Sem.run Try.prog (method 217 33 (.pointer (some ⟨mb, 0, none⟩)) "Load") w = .ok (13, .pointer (some ⟨mb, 0, none⟩)) w := fun w => mLoad _ w
            go_wp2_with fail
            clear mL c6 c3
            refine (load4_any f HF.out p mb HPL.out w5 (HH.out _ HC5.out).row).mono ?_
            rintro e w6 ⟨rfl, hc6⟩
            have HC6 := Lib.hid (HC5.out.trans hc6)
            rw [← HLD.out]
            clear hc6 c1
            go_wp2_with fail
            refine (setS_any wd x w6).mono ?_
            rintro e w' ⟨rfl, hw⟩
            obtain rfl := hw.symm
            rw [← HYE.out]
            have c6 := (HH.out _ HC6.out).c6
            have mS : ∀ w, Sem.run Try.prog (method 217 33 (.pointer (some ⟨mb, 0, none⟩)) "Store") w = .ok (17, .pointer (some ⟨mb, 0, none⟩)) w := fun w => mStore _ w
            go_wp2_with fail
            clear mS c6
            refine (store4_any f p mb y HPL.out HYL.out w6 (HH.out _ HC6.out).row).mono ?_
            rintro e w9 ⟨rfl, hr9, hc9⟩
            have HR9 := Lib.hid hr9
            have HC9 := Lib.hid hc9
            clear hr9 hc9
            go_wp2
            go_ret
            exact ⟨by rw [HW3.out]; rfl, by rw [HW3.out]; exact HR9.out, (chg_any (HCX.out.trans HC6.out)).trans HC9.out⟩
          · have aI : ¬ (add : Int) = 0 := by omega
            have HW3 : Hid (oneN v.bias Rs Ys Ss f ⟨ra, 25, sy, add⟩ = (13, f)) := Lib.hid (by rw [HW4.out, if_pos (.inr ha0)])
            go_wp2
            go_ret
            exact ⟨by rw [HW3.out]; rfl, by rw [HW3.out]; exact (HH.out w5 HC5.out).row, chg_any (HCX.out.trans HC5.out)⟩
      · have HW2 : Hid (oneN v.bias Rs Ys Ss f ⟨ra, 25, sy, add⟩ = (18, f)) := Lib.hid (by rw [HW.out, if_pos (by decide)])
        go_wp2
        go_ret
        exact ⟨by rw [HW2.out]; rfl, by rw [HW2.out]; exact (HH.out w4 HC4.out).row, chg_any (HCX.out.trans HC4.out)⟩
    · have mI : ¬ (m : Int) = 0 := by omega
      have HW : Hid (oneN v.bias Rs Ys Ss f ⟨ra, 25, sy, add⟩ = (13, f)) := Lib.hid (by rw [HV.out, if_neg (by rw [show sizeN 25 = 4 from rfl, ← HB0.out]; decide), if_pos (.inl ⟨by decide, by decide, by rw [← HM.out]; exact hm0⟩)])
      go_wp2
      go_ret
      exact ⟨by rw [HW.out]; rfl, by rw [HW.out]; exact (HH.out w1 HC1.out).row, chg_any (HCX.out.trans HC1.out)⟩
end Go.Proofs.L
