/- Proved here: lemmas and contracts (Rr3b) for the laws of this seat, for all values of the stated types; no further condition. -/
import Derived.Test.YtjiiojbenbldlaaRr3
import Derived.Test.YtjiiojbenbldlaaR22
open Go Go.RowKit Go.Lib
namespace Go.Proofs.L
attribute [local irreducible] wpT
set_option maxRecDepth 100000 in
set_option maxHeartbeats 16000000 in
theorem rval_3 {w : World} {v : Jv} {Rs : List Rl} {Ys : List Nat} (hF : FileOk w v Rs Ys) (hlen : v.nrl < 1000000) (bias ra add : Nat) (sy : Int) (hb : bias < 4294967296) (hra : ra < 4294967296) (hadd : add < 4294967296) :
    Calls Try.prog 12 #[.agg (fileA v), .int .i64 (bias : Int), .agg #[.int .u32 (ra : Int), .int .i64 3, .int .i64 sy, .int .u32 (add : Int)]] w (ValQ w (valN bias Rs Ys ⟨ra, 3, sy, add⟩)) := by
  obtain ⟨q, hq⟩ : ∃ q, q = bias + ra := ⟨_, rfl⟩
  obtain ⟨p, hpp⟩ : ∃ p, p = (bias + ra) % 4294967296 := ⟨_, rfl⟩
  obtain ⟨y, hy⟩ : ∃ y, y = symN Ys bias sy := ⟨_, rfl⟩
  have hyl : y < 4294967296 := by rw [hy]; exact symN_lt _ _ _
  obtain ⟨z, hz⟩ : ∃ z, z = y + add := ⟨_, rfl⟩
  obtain ⟨sa, hsa⟩ : ∃ s, s = (symN Ys bias sy + add) % 4294967296 := ⟨_, rfl⟩
  have L1 : ra < 8589934592 := by omega
  have L2 : add < 8589934592 := by omega
  have L3 : bias < 8589934592 := by omega
  have L4 : y < 8589934592 := by omega
  have hpl : p < 4294967296 := by rw [hpp]; exact Nat.mod_lt _ (by decide)
  have hsl : sa < 4294967296 := by rw [hsa]; exact Nat.mod_lt _ (by decide)
  have wa := (w64id ra L1).1
  have wb := (w64add bias ra q L3 L1 hq).1
  have WC := Lib.hid (w64id add L2).1
  have WC2 := Lib.hid (w64id add L2).2
  have WD := Lib.hid (w64add y add z L4 L2 hz).1
  have WD2 := Lib.hid (w64add y add z L4 L2 hz).2
  have HPL := Lib.hid hpl
  have HSL := Lib.hid hsl
  clear L4 hyl
  have HPQ : Hid (lowN (q : Int) = p) := Lib.hid (by rw [lowN_nat, hpp, hq])
  have HZS : Hid (lowN (z : Int) = sa) := Lib.hid (by rw [lowN_nat, hsa, hz, hy])
  obtain ⟨Fb, hFb⟩ : ∃ b, b = w.heap.size := ⟨_, rfl⟩
  obtain ⟨X, hX⟩ : ∃ X, X = (w.alloc (.cells #[v.e, v.sg, .slice v.prl v.nrl v.crl, .slice v.psy v.nsy v.csy] 30)).alloc (.cells #[.int .u32 (ra : Int), .int .i64 3, .int .i64 sy, .int .u32 (add : Int)] 32) := ⟨_, rfl⟩
  have hcX : Chg [] w X := by rw [hX]; exact ((Chg.refl _ _).alloc _).alloc _
  have hrF : X.row? Fb = some (fileA v) := by rw [hX, row_alloc_past _ _ _ (by simp; omega)]; exact row_alloc_at _ _ _ _ hFb
  have hrR : X.row? (Fb + 1) = some #[.int .u32 (ra : Int), .int .i64 3, .int .i64 sy, .int .u32 (add : Int)] := by rw [hX]; exact row_alloc_at _ _ _ _ (by simp [hFb])
  have HRF : Hid (∀ W, Chg [] X W → W.row? Fb = some (fileA v)) := Lib.hid fun W hW => (hW.row (row_lt hrF) (by simp)).trans hrF
  have HRR : Hid (∀ W, Chg [] X W → W.cell? ⟨Fb + 1, 0, none⟩ = some (.int .u32 (ra : Int)) ∧ W.cell? ⟨Fb + 1, 1, none⟩ = some (.int .i64 3) ∧ W.cell? ⟨Fb + 1, 2, none⟩ = some (.int .i64 sy) ∧ W.cell? ⟨Fb + 1, 3, none⟩ = some (.int .u32 (add : Int))) := Lib.hid fun W hW => by
    have h := (hW.row (row_lt hrR) (by simp)).trans hrR
    exact ⟨by rw [row_cell h]; rfl, by rw [row_cell h]; rfl, by rw [row_cell h]; rfl, by rw [row_cell h]; rfl⟩
  have HCX := Lib.hid hcX
  have HFX : Hid (∀ W, Chg [] X W → FileOk W v Rs Ys) := Lib.hid fun W hW => hF.keep (hcX.trans hW) (by simp) (by simp)
  have HX := Lib.hid hX
  have HPP := Lib.hid hpp
  have HSA := Lib.hid hsa
  have HY := Lib.hid hy
  have HB := Lib.hid hb
  have HA := Lib.hid hadd
  have HL := Lib.hid hlen
  have HFB := Lib.hid hFb
  have c0 := (HRR.out X (Chg.refl _ _)).1
  obtain ⟨q3, hq3⟩ : ∃ q, q = bias + add := ⟨_, rfl⟩
  obtain ⟨d, hd⟩ : ∃ d, d = (bias + add) % 4294967296 := ⟨_, rfl⟩
  have HD : Hid (lowN (q3 : Int) = d) := Lib.hid (by rw [lowN_nat, hd, hq3])
  have WE : Hid (wrap64 ((bias : Int) + (add : Int)) = (q3 : Int)) := Lib.hid (w64add bias add q3 L3 L2 hq3).1
  have HVN : Hid (valN bias Rs Ys ⟨ra, 3, sy, add⟩ = (d, 87, 0)) := Lib.hid (by unfold valN; simp only [← hsa, ← hpp]; simp [hd])
  clear hd hq3
  clear hF hlen hb hra hadd hq hpp hy hz hsa hcX hrF hrR hX hFb L1 L2 L3 hpl hsl
  unfold fileA
  go_enter Try.func12, Try.ntmps12
  go_upto_region 1 with (fail)
  rw [← HX.out, ← HFB.out]
  clear HX
  go_wp2_with fail
  refine (low_any (q : Int) X).mono ?_
  rintro e w' ⟨rfl, hw⟩
  obtain rfl := hw.symm
  clear hw
  rw [HPQ.out]
  clear wa wb c0
  go_upto_region 2 with (fail)
  have wc := WC.out
  have wd := WD.out
  have wc2 := WC2.out
  have wd2 := WD2.out
  refine wp_region_C (fun w' => Chg [] X w' ∧ w'.row? Fb = some (fileA v) ∧ w'.cell? ⟨Fb + 1, 2, none⟩ = some (.int .i64 sy) ∧ w'.cell? ⟨Fb + 1, 3, none⟩ = some (.int .u32 (add : Int))) [(0, 1), (1, 0), (2, 0), (3, 1), (5, 0), (6, 1), (7, 0), (4, 2), (8, 0), (9, 0), (10, 0)] rfl (by kernel_rfl) ?hSA ?hTA
  case hSA => exact ⟨(Chg.refl _ _).drew, HRF.out _ (Chg.refl _ _).drew, (HRR.out _ (Chg.refl _ _).drew).2.2.1, (HRR.out _ (Chg.refl _ _).drew).2.2.2⟩
  refine wpT_load_part a30 [v.e, v.sg, .slice v.prl v.nrl v.crl, .slice v.psy v.nsy v.csy] (some 24) _ rfl rfl rfl (by rfl) rfl rfl (fun w' hw j u hu => by rw [Nat.zero_add, row_cell hw.2.1]; simpa [fileA] using hu) ?_
  try simp only [Act.put, List.setIfInBounds_toArray, List.set_cons_zero, List.set_cons_succ]
  try simp only [Act.put, List.setIfInBounds_toArray, List.set_cons_zero, List.set_cons_succ]
  refine wpT_pureD (v := ?_) (some 25) rfl rfl (by rfl) (fun w' => ?_) ?_
  rotate_left
  · (go_simp; try with_reducible rfl)
  try simp only [Act.put, List.setIfInBounds_toArray, List.set_cons_zero, List.set_cons_succ]
  refine wpT_pureD (v := ?_) (some 26) rfl rfl (by rfl) (fun w' => ?_) ?_
  rotate_left
  · (go_simp; try with_reducible rfl)
  try simp only [Act.put, List.setIfInBounds_toArray, List.set_cons_zero, List.set_cons_succ]
  refine wpT_readD (v := ?_) (some 27) rfl rfl (by rfl) (fun w' hw => ?_) ?_
  rotate_left
  · (obtain ⟨q0, q1, q2, q3⟩ := hw; go_simp; try with_reducible rfl)
  try simp only [Act.put, List.setIfInBounds_toArray, List.set_cons_zero, List.set_cons_succ]
  refine wpT_pureD (v := ?_) (some 29) rfl rfl (by rfl) (fun w' => ?_) ?_
  rotate_left
  · (go_simp; try with_reducible rfl)
  try simp only [Act.put, List.setIfInBounds_toArray, List.set_cons_zero, List.set_cons_succ]
  refine wpT_readD (v := ?_) (some 30) rfl rfl (by rfl) (fun w' hw => ?_) ?_
  rotate_left
  · (obtain ⟨q0, q1, q2, q3⟩ := hw; go_simp; try with_reducible rfl)
  try simp only [Act.put, List.setIfInBounds_toArray, List.set_cons_zero, List.set_cons_succ]
  refine wpT_pureD (v := ?_) (some 31) rfl rfl (by rfl) (fun w' => ?_) ?_
  rotate_left
  · (go_simp; try with_reducible rfl)
  try simp only [Act.put, List.setIfInBounds_toArray, List.set_cons_zero, List.set_cons_succ]
  refine wpT_eff rfl (by rfl) (fun K hK => ?_)
  go_wp2_with fail
  refine (rsym_any (HFX.out _ (Chg.refl _ _).drew) bias HB.out sy).mono ?_
  rintro e w3 ⟨rfl, hc3⟩
  rw [← HY.out]
  go_wp2_with fail
  have hc4 := (Chg.refl [] X).drew.trans hc3
  refine hK _ _ ⟨hc4, HRF.out _ hc4, (HRR.out _ hc4).2.2.1, (HRR.out _ hc4).2.2.2⟩ ?_
  clear hK K
  refine wpT_pureD (v := ?_) (some 32) rfl rfl (by rfl) (fun w' => ?_) ?_
  rotate_left
  · (go_simp; try with_reducible rfl)
  try simp only [Act.put, List.setIfInBounds_toArray, List.set_cons_zero, List.set_cons_succ]
  refine wpT_call (d := some 33) (f := 24) (args := #[.int .i64 (z : Int)]) (v := .int .i64 (sa : Int)) rfl rfl (by rfl) (fun w' => by first | rfl | (go_simp; done) | (go_simp; rfl)) (fun w' => by rw [← HZS.out]; exact low_any (z : Int) w') ?_
  try simp only [Act.put, List.setIfInBounds_toArray, List.set_cons_zero, List.set_cons_succ]
  try simp only [Act.put, List.setIfInBounds_toArray, List.set_cons_zero, List.set_cons_succ]
  refine wpT_pureD (v := ?_) (some 10) rfl rfl (by rfl) (fun w' => ?_) ?_
  rotate_left
  · (go_simp; try with_reducible rfl)
  try simp only [Act.put, List.setIfInBounds_toArray, List.set_cons_zero, List.set_cons_succ]
  refine wpT_end ?_
  have HC4 := Lib.hid hc4
  have c1 := (HRR.out _ hc4).2.1
  clear wc wd wc2 wd2 hc3 hc4
  have c3 := (HRR.out _ HC4.out).2.2.2
  have wc := WC.out
  have we := WE.out
  go_wp2_with fail
  refine (low_any (q3 : Int) w3).mono ?_
  rintro e w' ⟨rfl, hw⟩
  obtain rfl := hw.symm
  clear hw we wc c3
  rw [HD.out]
  go_wp2
  go_ret3
  exact ⟨by rw [HVN.out]; rfl, HCX.out.trans HC4.out⟩
set_option maxRecDepth 100000 in
set_option maxHeartbeats 16000000 in
theorem rval_18 {w : World} {v : Jv} {Rs : List Rl} {Ys : List Nat} (hF : FileOk w v Rs Ys) (hlen : v.nrl < 1000000) (bias ra add : Nat) (sy : Int) (hb : bias < 4294967296) (hra : ra < 4294967296) (hadd : add < 4294967296) :
    Calls Try.prog 12 #[.agg (fileA v), .int .i64 (bias : Int), .agg #[.int .u32 (ra : Int), .int .i64 18, .int .i64 sy, .int .u32 (add : Int)]] w (ValQ w (valN bias Rs Ys ⟨ra, 18, sy, add⟩)) := by
  obtain ⟨q, hq⟩ : ∃ q, q = bias + ra := ⟨_, rfl⟩
  obtain ⟨p, hpp⟩ : ∃ p, p = (bias + ra) % 4294967296 := ⟨_, rfl⟩
  obtain ⟨y, hy⟩ : ∃ y, y = symN Ys bias sy := ⟨_, rfl⟩
  have hyl : y < 4294967296 := by rw [hy]; exact symN_lt _ _ _
  obtain ⟨z, hz⟩ : ∃ z, z = y + add := ⟨_, rfl⟩
  obtain ⟨sa, hsa⟩ : ∃ s, s = (symN Ys bias sy + add) % 4294967296 := ⟨_, rfl⟩
  have L1 : ra < 8589934592 := by omega
  have L2 : add < 8589934592 := by omega
  have L3 : bias < 8589934592 := by omega
  have L4 : y < 8589934592 := by omega
  have hpl : p < 4294967296 := by rw [hpp]; exact Nat.mod_lt _ (by decide)
  have hsl : sa < 4294967296 := by rw [hsa]; exact Nat.mod_lt _ (by decide)
  have wa := (w64id ra L1).1
  have wb := (w64add bias ra q L3 L1 hq).1
  have WC := Lib.hid (w64id add L2).1
  have WC2 := Lib.hid (w64id add L2).2
  have WD := Lib.hid (w64add y add z L4 L2 hz).1
  have WD2 := Lib.hid (w64add y add z L4 L2 hz).2
  have HPL := Lib.hid hpl
  have HSL := Lib.hid hsl
  clear L4 hyl
  have HPQ : Hid (lowN (q : Int) = p) := Lib.hid (by rw [lowN_nat, hpp, hq])
  have HZS : Hid (lowN (z : Int) = sa) := Lib.hid (by rw [lowN_nat, hsa, hz, hy])
  obtain ⟨Fb, hFb⟩ : ∃ b, b = w.heap.size := ⟨_, rfl⟩
  obtain ⟨X, hX⟩ : ∃ X, X = (w.alloc (.cells #[v.e, v.sg, .slice v.prl v.nrl v.crl, .slice v.psy v.nsy v.csy] 30)).alloc (.cells #[.int .u32 (ra : Int), .int .i64 18, .int .i64 sy, .int .u32 (add : Int)] 32) := ⟨_, rfl⟩
  have hcX : Chg [] w X := by rw [hX]; exact ((Chg.refl _ _).alloc _).alloc _
  have hrF : X.row? Fb = some (fileA v) := by rw [hX, row_alloc_past _ _ _ (by simp; omega)]; exact row_alloc_at _ _ _ _ hFb
  have hrR : X.row? (Fb + 1) = some #[.int .u32 (ra : Int), .int .i64 18, .int .i64 sy, .int .u32 (add : Int)] := by rw [hX]; exact row_alloc_at _ _ _ _ (by simp [hFb])
  have HRF : Hid (∀ W, Chg [] X W → W.row? Fb = some (fileA v)) := Lib.hid fun W hW => (hW.row (row_lt hrF) (by simp)).trans hrF
  have HRR : Hid (∀ W, Chg [] X W → W.cell? ⟨Fb + 1, 0, none⟩ = some (.int .u32 (ra : Int)) ∧ W.cell? ⟨Fb + 1, 1, none⟩ = some (.int .i64 18) ∧ W.cell? ⟨Fb + 1, 2, none⟩ = some (.int .i64 sy) ∧ W.cell? ⟨Fb + 1, 3, none⟩ = some (.int .u32 (add : Int))) := Lib.hid fun W hW => by
    have h := (hW.row (row_lt hrR) (by simp)).trans hrR
    exact ⟨by rw [row_cell h]; rfl, by rw [row_cell h]; rfl, by rw [row_cell h]; rfl, by rw [row_cell h]; rfl⟩
  have HCX := Lib.hid hcX
  have HFX : Hid (∀ W, Chg [] X W → FileOk W v Rs Ys) := Lib.hid fun W hW => hF.keep (hcX.trans hW) (by simp) (by simp)
  have HX := Lib.hid hX
  have HPP := Lib.hid hpp
  have HSA := Lib.hid hsa
  have HY := Lib.hid hy
  have HB := Lib.hid hb
  have HA := Lib.hid hadd
  have HL := Lib.hid hlen
  have HFB := Lib.hid hFb
  have c0 := (HRR.out X (Chg.refl _ _)).1
  obtain ⟨d, hd⟩ : ∃ d, d = subw sa p := ⟨_, rfl⟩
  have HD : Hid (lowN ((sa : Int) - (p : Int)) = d) := Lib.hid (by rw [lowN_sub _ _ HPL.out, hd, Nat.mod_eq_of_lt HSL.out])
  have WE : Hid (wrap64 ((sa : Int) - (p : Int)) = (sa : Int) - (p : Int)) := Lib.hid (w64sub sa p (by have := HSL.out; exact Nat.lt_trans this (by decide)) (by have := HPL.out; exact Nat.lt_trans this (by decide)))
  have HVN : Hid (valN bias Rs Ys ⟨ra, 18, sy, add⟩ = (d, 85, 0)) := Lib.hid (by unfold valN; simp only [← hsa, ← hpp]; simp [hd])
  clear hd
  clear hF hlen hb hra hadd hq hpp hy hz hsa hcX hrF hrR hX hFb L1 L2 L3 hpl hsl
  unfold fileA
  go_enter Try.func12, Try.ntmps12
  go_upto_region 1 with (fail)
  rw [← HX.out, ← HFB.out]
  clear HX
  go_wp2_with fail
  refine (low_any (q : Int) X).mono ?_
  rintro e w' ⟨rfl, hw⟩
  obtain rfl := hw.symm
  clear hw
  rw [HPQ.out]
  clear wa wb c0
  go_upto_region 2 with (fail)
  have wc := WC.out
  have wd := WD.out
  have wc2 := WC2.out
  have wd2 := WD2.out
  refine wp_region_C (fun w' => Chg [] X w' ∧ w'.row? Fb = some (fileA v) ∧ w'.cell? ⟨Fb + 1, 2, none⟩ = some (.int .i64 sy) ∧ w'.cell? ⟨Fb + 1, 3, none⟩ = some (.int .u32 (add : Int))) [(0, 1), (1, 0), (2, 0), (3, 1), (5, 0), (6, 1), (7, 0), (4, 2), (8, 0), (9, 0), (10, 0)] rfl (by kernel_rfl) ?hSA ?hTA
  case hSA => exact ⟨(Chg.refl _ _).drew, HRF.out _ (Chg.refl _ _).drew, (HRR.out _ (Chg.refl _ _).drew).2.2.1, (HRR.out _ (Chg.refl _ _).drew).2.2.2⟩
  refine wpT_load_part a30 [v.e, v.sg, .slice v.prl v.nrl v.crl, .slice v.psy v.nsy v.csy] (some 24) _ rfl rfl rfl (by rfl) rfl rfl (fun w' hw j u hu => by rw [Nat.zero_add, row_cell hw.2.1]; simpa [fileA] using hu) ?_
  try simp only [Act.put, List.setIfInBounds_toArray, List.set_cons_zero, List.set_cons_succ]
  try simp only [Act.put, List.setIfInBounds_toArray, List.set_cons_zero, List.set_cons_succ]
  refine wpT_pureD (v := ?_) (some 25) rfl rfl (by rfl) (fun w' => ?_) ?_
  rotate_left
  · (go_simp; try with_reducible rfl)
  try simp only [Act.put, List.setIfInBounds_toArray, List.set_cons_zero, List.set_cons_succ]
  refine wpT_pureD (v := ?_) (some 26) rfl rfl (by rfl) (fun w' => ?_) ?_
  rotate_left
  · (go_simp; try with_reducible rfl)
  try simp only [Act.put, List.setIfInBounds_toArray, List.set_cons_zero, List.set_cons_succ]
  refine wpT_readD (v := ?_) (some 27) rfl rfl (by rfl) (fun w' hw => ?_) ?_
  rotate_left
  · (obtain ⟨q0, q1, q2, q3⟩ := hw; go_simp; try with_reducible rfl)
  try simp only [Act.put, List.setIfInBounds_toArray, List.set_cons_zero, List.set_cons_succ]
  refine wpT_pureD (v := ?_) (some 29) rfl rfl (by rfl) (fun w' => ?_) ?_
  rotate_left
  · (go_simp; try with_reducible rfl)
  try simp only [Act.put, List.setIfInBounds_toArray, List.set_cons_zero, List.set_cons_succ]
  refine wpT_readD (v := ?_) (some 30) rfl rfl (by rfl) (fun w' hw => ?_) ?_
  rotate_left
  · (obtain ⟨q0, q1, q2, q3⟩ := hw; go_simp; try with_reducible rfl)
  try simp only [Act.put, List.setIfInBounds_toArray, List.set_cons_zero, List.set_cons_succ]
  refine wpT_pureD (v := ?_) (some 31) rfl rfl (by rfl) (fun w' => ?_) ?_
  rotate_left
  · (go_simp; try with_reducible rfl)
  try simp only [Act.put, List.setIfInBounds_toArray, List.set_cons_zero, List.set_cons_succ]
  refine wpT_eff rfl (by rfl) (fun K hK => ?_)
  go_wp2_with fail
  refine (rsym_any (HFX.out _ (Chg.refl _ _).drew) bias HB.out sy).mono ?_
  rintro e w3 ⟨rfl, hc3⟩
  rw [← HY.out]
  go_wp2_with fail
  have hc4 := (Chg.refl [] X).drew.trans hc3
  refine hK _ _ ⟨hc4, HRF.out _ hc4, (HRR.out _ hc4).2.2.1, (HRR.out _ hc4).2.2.2⟩ ?_
  clear hK K
  refine wpT_pureD (v := ?_) (some 32) rfl rfl (by rfl) (fun w' => ?_) ?_
  rotate_left
  · (go_simp; try with_reducible rfl)
  try simp only [Act.put, List.setIfInBounds_toArray, List.set_cons_zero, List.set_cons_succ]
  refine wpT_call (d := some 33) (f := 24) (args := #[.int .i64 (z : Int)]) (v := .int .i64 (sa : Int)) rfl rfl (by rfl) (fun w' => by first | rfl | (go_simp; done) | (go_simp; rfl)) (fun w' => by rw [← HZS.out]; exact low_any (z : Int) w') ?_
  try simp only [Act.put, List.setIfInBounds_toArray, List.set_cons_zero, List.set_cons_succ]
  try simp only [Act.put, List.setIfInBounds_toArray, List.set_cons_zero, List.set_cons_succ]
  refine wpT_pureD (v := ?_) (some 10) rfl rfl (by rfl) (fun w' => ?_) ?_
  rotate_left
  · (go_simp; try with_reducible rfl)
  try simp only [Act.put, List.setIfInBounds_toArray, List.set_cons_zero, List.set_cons_succ]
  refine wpT_end ?_
  have HC4 := Lib.hid hc4
  have c1 := (HRR.out _ hc4).2.1
  clear wc wd wc2 wd2 hc3 hc4
  have we := WE.out
  go_wp2_with fail
  refine (low_any ((sa : Int) - (p : Int)) w3).mono ?_
  rintro e w' ⟨rfl, hw⟩
  obtain rfl := hw.symm
  clear hw we
  rw [HD.out]
  go_wp2
  go_ret3
  exact ⟨by rw [HVN.out]; rfl, HCX.out.trans HC4.out⟩
set_option maxRecDepth 100000 in
set_option maxHeartbeats 16000000 in
theorem rval_19 {w : World} {v : Jv} {Rs : List Rl} {Ys : List Nat} (hF : FileOk w v Rs Ys) (hlen : v.nrl < 1000000) (bias ra add : Nat) (sy : Int) (hb : bias < 4294967296) (hra : ra < 4294967296) (hadd : add < 4294967296) :
    Calls Try.prog 12 #[.agg (fileA v), .int .i64 (bias : Int), .agg #[.int .u32 (ra : Int), .int .i64 19, .int .i64 sy, .int .u32 (add : Int)]] w (ValQ w (valN bias Rs Ys ⟨ra, 19, sy, add⟩)) := by
  obtain ⟨q, hq⟩ : ∃ q, q = bias + ra := ⟨_, rfl⟩
  obtain ⟨p, hpp⟩ : ∃ p, p = (bias + ra) % 4294967296 := ⟨_, rfl⟩
  obtain ⟨y, hy⟩ : ∃ y, y = symN Ys bias sy := ⟨_, rfl⟩
  have hyl : y < 4294967296 := by rw [hy]; exact symN_lt _ _ _
  obtain ⟨z, hz⟩ : ∃ z, z = y + add := ⟨_, rfl⟩
  obtain ⟨sa, hsa⟩ : ∃ s, s = (symN Ys bias sy + add) % 4294967296 := ⟨_, rfl⟩
  have L1 : ra < 8589934592 := by omega
  have L2 : add < 8589934592 := by omega
  have L3 : bias < 8589934592 := by omega
  have L4 : y < 8589934592 := by omega
  have hpl : p < 4294967296 := by rw [hpp]; exact Nat.mod_lt _ (by decide)
  have hsl : sa < 4294967296 := by rw [hsa]; exact Nat.mod_lt _ (by decide)
  have wa := (w64id ra L1).1
  have wb := (w64add bias ra q L3 L1 hq).1
  have WC := Lib.hid (w64id add L2).1
  have WC2 := Lib.hid (w64id add L2).2
  have WD := Lib.hid (w64add y add z L4 L2 hz).1
  have WD2 := Lib.hid (w64add y add z L4 L2 hz).2
  have HPL := Lib.hid hpl
  have HSL := Lib.hid hsl
  clear L4 hyl
  have HPQ : Hid (lowN (q : Int) = p) := Lib.hid (by rw [lowN_nat, hpp, hq])
  have HZS : Hid (lowN (z : Int) = sa) := Lib.hid (by rw [lowN_nat, hsa, hz, hy])
  obtain ⟨Fb, hFb⟩ : ∃ b, b = w.heap.size := ⟨_, rfl⟩
  obtain ⟨X, hX⟩ : ∃ X, X = (w.alloc (.cells #[v.e, v.sg, .slice v.prl v.nrl v.crl, .slice v.psy v.nsy v.csy] 30)).alloc (.cells #[.int .u32 (ra : Int), .int .i64 19, .int .i64 sy, .int .u32 (add : Int)] 32) := ⟨_, rfl⟩
  have hcX : Chg [] w X := by rw [hX]; exact ((Chg.refl _ _).alloc _).alloc _
  have hrF : X.row? Fb = some (fileA v) := by rw [hX, row_alloc_past _ _ _ (by simp; omega)]; exact row_alloc_at _ _ _ _ hFb
  have hrR : X.row? (Fb + 1) = some #[.int .u32 (ra : Int), .int .i64 19, .int .i64 sy, .int .u32 (add : Int)] := by rw [hX]; exact row_alloc_at _ _ _ _ (by simp [hFb])
  have HRF : Hid (∀ W, Chg [] X W → W.row? Fb = some (fileA v)) := Lib.hid fun W hW => (hW.row (row_lt hrF) (by simp)).trans hrF
  have HRR : Hid (∀ W, Chg [] X W → W.cell? ⟨Fb + 1, 0, none⟩ = some (.int .u32 (ra : Int)) ∧ W.cell? ⟨Fb + 1, 1, none⟩ = some (.int .i64 19) ∧ W.cell? ⟨Fb + 1, 2, none⟩ = some (.int .i64 sy) ∧ W.cell? ⟨Fb + 1, 3, none⟩ = some (.int .u32 (add : Int))) := Lib.hid fun W hW => by
    have h := (hW.row (row_lt hrR) (by simp)).trans hrR
    exact ⟨by rw [row_cell h]; rfl, by rw [row_cell h]; rfl, by rw [row_cell h]; rfl, by rw [row_cell h]; rfl⟩
  have HCX := Lib.hid hcX
  have HFX : Hid (∀ W, Chg [] X W → FileOk W v Rs Ys) := Lib.hid fun W hW => hF.keep (hcX.trans hW) (by simp) (by simp)
  have HX := Lib.hid hX
  have HPP := Lib.hid hpp
  have HSA := Lib.hid hsa
  have HY := Lib.hid hy
  have HB := Lib.hid hb
  have HA := Lib.hid hadd
  have HL := Lib.hid hlen
  have HFB := Lib.hid hFb
  have c0 := (HRR.out X (Chg.refl _ _)).1
  obtain ⟨d, hd⟩ : ∃ d, d = subw sa p := ⟨_, rfl⟩
  have HD : Hid (lowN ((sa : Int) - (p : Int)) = d) := Lib.hid (by rw [lowN_sub _ _ HPL.out, hd, Nat.mod_eq_of_lt HSL.out])
  have WE : Hid (wrap64 ((sa : Int) - (p : Int)) = (sa : Int) - (p : Int)) := Lib.hid (w64sub sa p (by have := HSL.out; exact Nat.lt_trans this (by decide)) (by have := HPL.out; exact Nat.lt_trans this (by decide)))
  have HVN : Hid (valN bias Rs Ys ⟨ra, 19, sy, add⟩ = (d, 85, 0)) := Lib.hid (by unfold valN; simp only [← hsa, ← hpp]; simp [hd])
  clear hd
  clear hF hlen hb hra hadd hq hpp hy hz hsa hcX hrF hrR hX hFb L1 L2 L3 hpl hsl
  unfold fileA
  go_enter Try.func12, Try.ntmps12
  go_upto_region 1 with (fail)
  rw [← HX.out, ← HFB.out]
  clear HX
  go_wp2_with fail
  refine (low_any (q : Int) X).mono ?_
  rintro e w' ⟨rfl, hw⟩
  obtain rfl := hw.symm
  clear hw
  rw [HPQ.out]
  clear wa wb c0
  go_upto_region 2 with (fail)
  have wc := WC.out
  have wd := WD.out
  have wc2 := WC2.out
  have wd2 := WD2.out
  refine wp_region_C (fun w' => Chg [] X w' ∧ w'.row? Fb = some (fileA v) ∧ w'.cell? ⟨Fb + 1, 2, none⟩ = some (.int .i64 sy) ∧ w'.cell? ⟨Fb + 1, 3, none⟩ = some (.int .u32 (add : Int))) [(0, 1), (1, 0), (2, 0), (3, 1), (5, 0), (6, 1), (7, 0), (4, 2), (8, 0), (9, 0), (10, 0)] rfl (by kernel_rfl) ?hSA ?hTA
  case hSA => exact ⟨(Chg.refl _ _).drew, HRF.out _ (Chg.refl _ _).drew, (HRR.out _ (Chg.refl _ _).drew).2.2.1, (HRR.out _ (Chg.refl _ _).drew).2.2.2⟩
  refine wpT_load_part a30 [v.e, v.sg, .slice v.prl v.nrl v.crl, .slice v.psy v.nsy v.csy] (some 24) _ rfl rfl rfl (by rfl) rfl rfl (fun w' hw j u hu => by rw [Nat.zero_add, row_cell hw.2.1]; simpa [fileA] using hu) ?_
  try simp only [Act.put, List.setIfInBounds_toArray, List.set_cons_zero, List.set_cons_succ]
  try simp only [Act.put, List.setIfInBounds_toArray, List.set_cons_zero, List.set_cons_succ]
  refine wpT_pureD (v := ?_) (some 25) rfl rfl (by rfl) (fun w' => ?_) ?_
  rotate_left
  · (go_simp; try with_reducible rfl)
  try simp only [Act.put, List.setIfInBounds_toArray, List.set_cons_zero, List.set_cons_succ]
  refine wpT_pureD (v := ?_) (some 26) rfl rfl (by rfl) (fun w' => ?_) ?_
  rotate_left
  · (go_simp; try with_reducible rfl)
  try simp only [Act.put, List.setIfInBounds_toArray, List.set_cons_zero, List.set_cons_succ]
  refine wpT_readD (v := ?_) (some 27) rfl rfl (by rfl) (fun w' hw => ?_) ?_
  rotate_left
  · (obtain ⟨q0, q1, q2, q3⟩ := hw; go_simp; try with_reducible rfl)
  try simp only [Act.put, List.setIfInBounds_toArray, List.set_cons_zero, List.set_cons_succ]
  refine wpT_pureD (v := ?_) (some 29) rfl rfl (by rfl) (fun w' => ?_) ?_
  rotate_left
  · (go_simp; try with_reducible rfl)
  try simp only [Act.put, List.setIfInBounds_toArray, List.set_cons_zero, List.set_cons_succ]
  refine wpT_readD (v := ?_) (some 30) rfl rfl (by rfl) (fun w' hw => ?_) ?_
  rotate_left
  · (obtain ⟨q0, q1, q2, q3⟩ := hw; go_simp; try with_reducible rfl)
  try simp only [Act.put, List.setIfInBounds_toArray, List.set_cons_zero, List.set_cons_succ]
  refine wpT_pureD (v := ?_) (some 31) rfl rfl (by rfl) (fun w' => ?_) ?_
  rotate_left
  · (go_simp; try with_reducible rfl)
  try simp only [Act.put, List.setIfInBounds_toArray, List.set_cons_zero, List.set_cons_succ]
  refine wpT_eff rfl (by rfl) (fun K hK => ?_)
  go_wp2_with fail
  refine (rsym_any (HFX.out _ (Chg.refl _ _).drew) bias HB.out sy).mono ?_
  rintro e w3 ⟨rfl, hc3⟩
  rw [← HY.out]
  go_wp2_with fail
  have hc4 := (Chg.refl [] X).drew.trans hc3
  refine hK _ _ ⟨hc4, HRF.out _ hc4, (HRR.out _ hc4).2.2.1, (HRR.out _ hc4).2.2.2⟩ ?_
  clear hK K
  refine wpT_pureD (v := ?_) (some 32) rfl rfl (by rfl) (fun w' => ?_) ?_
  rotate_left
  · (go_simp; try with_reducible rfl)
  try simp only [Act.put, List.setIfInBounds_toArray, List.set_cons_zero, List.set_cons_succ]
  refine wpT_call (d := some 33) (f := 24) (args := #[.int .i64 (z : Int)]) (v := .int .i64 (sa : Int)) rfl rfl (by rfl) (fun w' => by first | rfl | (go_simp; done) | (go_simp; rfl)) (fun w' => by rw [← HZS.out]; exact low_any (z : Int) w') ?_
  try simp only [Act.put, List.setIfInBounds_toArray, List.set_cons_zero, List.set_cons_succ]
  try simp only [Act.put, List.setIfInBounds_toArray, List.set_cons_zero, List.set_cons_succ]
  refine wpT_pureD (v := ?_) (some 10) rfl rfl (by rfl) (fun w' => ?_) ?_
  rotate_left
  · (go_simp; try with_reducible rfl)
  try simp only [Act.put, List.setIfInBounds_toArray, List.set_cons_zero, List.set_cons_succ]
  refine wpT_end ?_
  have HC4 := Lib.hid hc4
  have c1 := (HRR.out _ hc4).2.1
  clear wc wd wc2 wd2 hc3 hc4
  have we := WE.out
  go_wp2_with fail
  refine (low_any ((sa : Int) - (p : Int)) w3).mono ?_
  rintro e w' ⟨rfl, hw⟩
  obtain rfl := hw.symm
  clear hw we
  rw [HD.out]
  go_wp2
  go_ret3
  exact ⟨by rw [HVN.out]; rfl, HCX.out.trans HC4.out⟩
set_option maxRecDepth 100000 in
set_option maxHeartbeats 16000000 in
theorem rval_23 {w : World} {v : Jv} {Rs : List Rl} {Ys : List Nat} (hF : FileOk w v Rs Ys) (hlen : v.nrl < 1000000) (bias ra add : Nat) (sy : Int) (hb : bias < 4294967296) (hra : ra < 4294967296) (hadd : add < 4294967296) :
    Calls Try.prog 12 #[.agg (fileA v), .int .i64 (bias : Int), .agg #[.int .u32 (ra : Int), .int .i64 23, .int .i64 sy, .int .u32 (add : Int)]] w (ValQ w (valN bias Rs Ys ⟨ra, 23, sy, add⟩)) := by
  obtain ⟨q, hq⟩ : ∃ q, q = bias + ra := ⟨_, rfl⟩
  obtain ⟨p, hpp⟩ : ∃ p, p = (bias + ra) % 4294967296 := ⟨_, rfl⟩
  obtain ⟨y, hy⟩ : ∃ y, y = symN Ys bias sy := ⟨_, rfl⟩
  have hyl : y < 4294967296 := by rw [hy]; exact symN_lt _ _ _
  obtain ⟨z, hz⟩ : ∃ z, z = y + add := ⟨_, rfl⟩
  obtain ⟨sa, hsa⟩ : ∃ s, s = (symN Ys bias sy + add) % 4294967296 := ⟨_, rfl⟩
  have L1 : ra < 8589934592 := by omega
  have L2 : add < 8589934592 := by omega
  have L3 : bias < 8589934592 := by omega
  have L4 : y < 8589934592 := by omega
  have hpl : p < 4294967296 := by rw [hpp]; exact Nat.mod_lt _ (by decide)
  have hsl : sa < 4294967296 := by rw [hsa]; exact Nat.mod_lt _ (by decide)
  have wa := (w64id ra L1).1
  have wb := (w64add bias ra q L3 L1 hq).1
  have WC := Lib.hid (w64id add L2).1
  have WC2 := Lib.hid (w64id add L2).2
  have WD := Lib.hid (w64add y add z L4 L2 hz).1
  have WD2 := Lib.hid (w64add y add z L4 L2 hz).2
  have HPL := Lib.hid hpl
  have HSL := Lib.hid hsl
  clear L4 hyl
  have HPQ : Hid (lowN (q : Int) = p) := Lib.hid (by rw [lowN_nat, hpp, hq])
  have HZS : Hid (lowN (z : Int) = sa) := Lib.hid (by rw [lowN_nat, hsa, hz, hy])
  obtain ⟨Fb, hFb⟩ : ∃ b, b = w.heap.size := ⟨_, rfl⟩
  obtain ⟨X, hX⟩ : ∃ X, X = (w.alloc (.cells #[v.e, v.sg, .slice v.prl v.nrl v.crl, .slice v.psy v.nsy v.csy] 30)).alloc (.cells #[.int .u32 (ra : Int), .int .i64 23, .int .i64 sy, .int .u32 (add : Int)] 32) := ⟨_, rfl⟩
  have hcX : Chg [] w X := by rw [hX]; exact ((Chg.refl _ _).alloc _).alloc _
  have hrF : X.row? Fb = some (fileA v) := by rw [hX, row_alloc_past _ _ _ (by simp; omega)]; exact row_alloc_at _ _ _ _ hFb
  have hrR : X.row? (Fb + 1) = some #[.int .u32 (ra : Int), .int .i64 23, .int .i64 sy, .int .u32 (add : Int)] := by rw [hX]; exact row_alloc_at _ _ _ _ (by simp [hFb])
  have HRF : Hid (∀ W, Chg [] X W → W.row? Fb = some (fileA v)) := Lib.hid fun W hW => (hW.row (row_lt hrF) (by simp)).trans hrF
  have HRR : Hid (∀ W, Chg [] X W → W.cell? ⟨Fb + 1, 0, none⟩ = some (.int .u32 (ra : Int)) ∧ W.cell? ⟨Fb + 1, 1, none⟩ = some (.int .i64 23) ∧ W.cell? ⟨Fb + 1, 2, none⟩ = some (.int .i64 sy) ∧ W.cell? ⟨Fb + 1, 3, none⟩ = some (.int .u32 (add : Int))) := Lib.hid fun W hW => by
    have h := (hW.row (row_lt hrR) (by simp)).trans hrR
    exact ⟨by rw [row_cell h]; rfl, by rw [row_cell h]; rfl, by rw [row_cell h]; rfl, by rw [row_cell h]; rfl⟩
  have HCX := Lib.hid hcX
  have HFX : Hid (∀ W, Chg [] X W → FileOk W v Rs Ys) := Lib.hid fun W hW => hF.keep (hcX.trans hW) (by simp) (by simp)
  have HX := Lib.hid hX
  have HPP := Lib.hid hpp
  have HSA := Lib.hid hsa
  have HY := Lib.hid hy
  have HB := Lib.hid hb
  have HA := Lib.hid hadd
  have HL := Lib.hid hlen
  have HFB := Lib.hid hFb
  have c0 := (HRR.out X (Chg.refl _ _)).1
  obtain ⟨d, hd⟩ : ∃ d, d = subw sa p := ⟨_, rfl⟩
  have HD : Hid (lowN ((sa : Int) - (p : Int)) = d) := Lib.hid (by rw [lowN_sub _ _ HPL.out, hd, Nat.mod_eq_of_lt HSL.out])
  have WE : Hid (wrap64 ((sa : Int) - (p : Int)) = (sa : Int) - (p : Int)) := Lib.hid (w64sub sa p (by have := HSL.out; exact Nat.lt_trans this (by decide)) (by have := HPL.out; exact Nat.lt_trans this (by decide)))
  have HVN : Hid (valN bias Rs Ys ⟨ra, 23, sy, add⟩ = (d, 85, 0)) := Lib.hid (by unfold valN; simp only [← hsa, ← hpp]; simp [hd])
  clear hd
  clear hF hlen hb hra hadd hq hpp hy hz hsa hcX hrF hrR hX hFb L1 L2 L3 hpl hsl
  unfold fileA
  go_enter Try.func12, Try.ntmps12
  go_upto_region 1 with (fail)
  rw [← HX.out, ← HFB.out]
  clear HX
  go_wp2_with fail
  refine (low_any (q : Int) X).mono ?_
  rintro e w' ⟨rfl, hw⟩
  obtain rfl := hw.symm
  clear hw
  rw [HPQ.out]
  clear wa wb c0
  go_upto_region 2 with (fail)
  have wc := WC.out
  have wd := WD.out
  have wc2 := WC2.out
  have wd2 := WD2.out
  refine wp_region_C (fun w' => Chg [] X w' ∧ w'.row? Fb = some (fileA v) ∧ w'.cell? ⟨Fb + 1, 2, none⟩ = some (.int .i64 sy) ∧ w'.cell? ⟨Fb + 1, 3, none⟩ = some (.int .u32 (add : Int))) [(0, 1), (1, 0), (2, 0), (3, 1), (5, 0), (6, 1), (7, 0), (4, 2), (8, 0), (9, 0), (10, 0)] rfl (by kernel_rfl) ?hSA ?hTA
  case hSA => exact ⟨(Chg.refl _ _).drew, HRF.out _ (Chg.refl _ _).drew, (HRR.out _ (Chg.refl _ _).drew).2.2.1, (HRR.out _ (Chg.refl _ _).drew).2.2.2⟩
  refine wpT_load_part a30 [v.e, v.sg, .slice v.prl v.nrl v.crl, .slice v.psy v.nsy v.csy] (some 24) _ rfl rfl rfl (by rfl) rfl rfl (fun w' hw j u hu => by rw [Nat.zero_add, row_cell hw.2.1]; simpa [fileA] using hu) ?_
  try simp only [Act.put, List.setIfInBounds_toArray, List.set_cons_zero, List.set_cons_succ]
  try simp only [Act.put, List.setIfInBounds_toArray, List.set_cons_zero, List.set_cons_succ]
  refine wpT_pureD (v := ?_) (some 25) rfl rfl (by rfl) (fun w' => ?_) ?_
  rotate_left
  · (go_simp; try with_reducible rfl)
  try simp only [Act.put, List.setIfInBounds_toArray, List.set_cons_zero, List.set_cons_succ]
  refine wpT_pureD (v := ?_) (some 26) rfl rfl (by rfl) (fun w' => ?_) ?_
  rotate_left
  · (go_simp; try with_reducible rfl)
  try simp only [Act.put, List.setIfInBounds_toArray, List.set_cons_zero, List.set_cons_succ]
  refine wpT_readD (v := ?_) (some 27) rfl rfl (by rfl) (fun w' hw => ?_) ?_
  rotate_left
  · (obtain ⟨q0, q1, q2, q3⟩ := hw; go_simp; try with_reducible rfl)
  try simp only [Act.put, List.setIfInBounds_toArray, List.set_cons_zero, List.set_cons_succ]
  refine wpT_pureD (v := ?_) (some 29) rfl rfl (by rfl) (fun w' => ?_) ?_
  rotate_left
  · (go_simp; try with_reducible rfl)
  try simp only [Act.put, List.setIfInBounds_toArray, List.set_cons_zero, List.set_cons_succ]
  refine wpT_readD (v := ?_) (some 30) rfl rfl (by rfl) (fun w' hw => ?_) ?_
  rotate_left
  · (obtain ⟨q0, q1, q2, q3⟩ := hw; go_simp; try with_reducible rfl)
  try simp only [Act.put, List.setIfInBounds_toArray, List.set_cons_zero, List.set_cons_succ]
  refine wpT_pureD (v := ?_) (some 31) rfl rfl (by rfl) (fun w' => ?_) ?_
  rotate_left
  · (go_simp; try with_reducible rfl)
  try simp only [Act.put, List.setIfInBounds_toArray, List.set_cons_zero, List.set_cons_succ]
  refine wpT_eff rfl (by rfl) (fun K hK => ?_)
  go_wp2_with fail
  refine (rsym_any (HFX.out _ (Chg.refl _ _).drew) bias HB.out sy).mono ?_
  rintro e w3 ⟨rfl, hc3⟩
  rw [← HY.out]
  go_wp2_with fail
  have hc4 := (Chg.refl [] X).drew.trans hc3
  refine hK _ _ ⟨hc4, HRF.out _ hc4, (HRR.out _ hc4).2.2.1, (HRR.out _ hc4).2.2.2⟩ ?_
  clear hK K
  refine wpT_pureD (v := ?_) (some 32) rfl rfl (by rfl) (fun w' => ?_) ?_
  rotate_left
  · (go_simp; try with_reducible rfl)
  try simp only [Act.put, List.setIfInBounds_toArray, List.set_cons_zero, List.set_cons_succ]
  refine wpT_call (d := some 33) (f := 24) (args := #[.int .i64 (z : Int)]) (v := .int .i64 (sa : Int)) rfl rfl (by rfl) (fun w' => by first | rfl | (go_simp; done) | (go_simp; rfl)) (fun w' => by rw [← HZS.out]; exact low_any (z : Int) w') ?_
  try simp only [Act.put, List.setIfInBounds_toArray, List.set_cons_zero, List.set_cons_succ]
  try simp only [Act.put, List.setIfInBounds_toArray, List.set_cons_zero, List.set_cons_succ]
  refine wpT_pureD (v := ?_) (some 10) rfl rfl (by rfl) (fun w' => ?_) ?_
  rotate_left
  · (go_simp; try with_reducible rfl)
  try simp only [Act.put, List.setIfInBounds_toArray, List.set_cons_zero, List.set_cons_succ]
  refine wpT_end ?_
  have HC4 := Lib.hid hc4
  have c1 := (HRR.out _ hc4).2.1
  clear wc wd wc2 wd2 hc3 hc4
  have we := WE.out
  go_wp2_with fail
  refine (low_any ((sa : Int) - (p : Int)) w3).mono ?_
  rintro e w' ⟨rfl, hw⟩
  obtain rfl := hw.symm
  clear hw we
  rw [HD.out]
  go_wp2
  go_ret3
  exact ⟨by rw [HVN.out]; rfl, HCX.out.trans HC4.out⟩
end Go.Proofs.L
