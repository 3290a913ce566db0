/- Proved here: lemmas and contracts (Rr3d) for the laws of this seat, for all values of the stated types; no further condition. -/
import Derived.Test.YtjiiojbenbldlaaRr3
import Derived.Test.YtjiiojbenbldlaaR22
open Go Go.RowKit Go.Lib
namespace Go.Proofs.L
attribute [local irreducible] wpT
set_option maxRecDepth 100000 in
set_option maxHeartbeats 16000000 in
theorem rval_24 {w : World} {v : Jv} {Rs : List Rl} {Ys : List Nat} (hF : FileOk w v Rs Ys) (hlen : v.nrl < 1000000) (bias ra add : Nat) (sy : Int) (hb : bias < 4294967296) (hra : ra < 4294967296) (hadd : add < 4294967296) :
    Calls Try.prog 12 #[.agg (fileA v), .int .i64 (bias : Int), .agg #[.int .u32 (ra : Int), .int .i64 24, .int .i64 sy, .int .u32 (add : Int)]] w (ValQ w (valN bias Rs Ys ⟨ra, 24, sy, add⟩)) := by
  obtain ⟨q, hq⟩ : ∃ q, q = bias + ra := ⟨_, rfl⟩
  obtain ⟨p, hpp⟩ : ∃ p, p = (bias + ra) % 4294967296 := ⟨_, rfl⟩
  obtain ⟨y, hy⟩ : ∃ y, y = symN Ys bias sy := ⟨_, rfl⟩
  have hyl : y < 4294967296 := by rw [hy]; exact symN_lt _ _ _
  obtain ⟨z, hz⟩ : ∃ z, z = y + add := ⟨_, rfl⟩
  obtain ⟨sa, hsa⟩ : ∃ s, s = (symN Ys bias sy + add) % 4294967296 := ⟨_, rfl⟩
  have L1 : ra < 8589934592 := by omega
  have L2 : add < 8589934592 := by omega
  have L3 : bias < 8589934592 := by omega
  have L4 : y < 8589934592 := by omega
  have hpl : p < 4294967296 := by rw [hpp]; exact Nat.mod_lt _ (by decide)
  have hsl : sa < 4294967296 := by rw [hsa]; exact Nat.mod_lt _ (by decide)
  have wa := (w64id ra L1).1
  have wb := (w64add bias ra q L3 L1 hq).1
  have WC := Lib.hid (w64id add L2).1
  have WC2 := Lib.hid (w64id add L2).2
  have WD := Lib.hid (w64add y add z L4 L2 hz).1
  have WD2 := Lib.hid (w64add y add z L4 L2 hz).2
  have HPL := Lib.hid hpl
  have HSL := Lib.hid hsl
  clear L4 hyl
  have HPQ : Hid (lowN (q : Int) = p) := Lib.hid (by rw [lowN_nat, hpp, hq])
  have HZS : Hid (lowN (z : Int) = sa) := Lib.hid (by rw [lowN_nat, hsa, hz, hy])
  obtain ⟨Fb, hFb⟩ : ∃ b, b = w.heap.size := ⟨_, rfl⟩
  obtain ⟨X, hX⟩ : ∃ X, X = (w.alloc (.cells #[v.e, v.sg, .slice v.prl v.nrl v.crl, .slice v.psy v.nsy v.csy] 30)).alloc (.cells #[.int .u32 (ra : Int), .int .i64 24, .int .i64 sy, .int .u32 (add : Int)] 32) := ⟨_, rfl⟩
  have hcX : Chg [] w X := by rw [hX]; exact ((Chg.refl _ _).alloc _).alloc _
  have hrF : X.row? Fb = some (fileA v) := by rw [hX, row_alloc_past _ _ _ (by simp; omega)]; exact row_alloc_at _ _ _ _ hFb
  have hrR : X.row? (Fb + 1) = some #[.int .u32 (ra : Int), .int .i64 24, .int .i64 sy, .int .u32 (add : Int)] := by rw [hX]; exact row_alloc_at _ _ _ _ (by simp [hFb])
  have HRF : Hid (∀ W, Chg [] X W → W.row? Fb = some (fileA v)) := Lib.hid fun W hW => (hW.row (row_lt hrF) (by simp)).trans hrF
  have HRR : Hid (∀ W, Chg [] X W → W.cell? ⟨Fb + 1, 0, none⟩ = some (.int .u32 (ra : Int)) ∧ W.cell? ⟨Fb + 1, 1, none⟩ = some (.int .i64 24) ∧ W.cell? ⟨Fb + 1, 2, none⟩ = some (.int .i64 sy) ∧ W.cell? ⟨Fb + 1, 3, none⟩ = some (.int .u32 (add : Int))) := Lib.hid fun W hW => by
    have h := (hW.row (row_lt hrR) (by simp)).trans hrR
    exact ⟨by rw [row_cell h]; rfl, by rw [row_cell h]; rfl, by rw [row_cell h]; rfl, by rw [row_cell h]; rfl⟩
  have HCX := Lib.hid hcX
  have HFX : Hid (∀ W, Chg [] X W → FileOk W v Rs Ys) := Lib.hid fun W hW => hF.keep (hcX.trans hW) (by simp) (by simp)
  have HX := Lib.hid hX
  have HPP := Lib.hid hpp
  have HSA := Lib.hid hsa
  have HY := Lib.hid hy
  have HB := Lib.hid hb
  have HA := Lib.hid hadd
  have HL := Lib.hid hlen
  have HFB := Lib.hid hFb
  have c0 := (HRR.out X (Chg.refl _ _)).1
  have HVN : Hid (valN bias Rs Ys ⟨ra, 24, sy, add⟩ = if (pairN Rs Ys bias sa).2 = false ∨ add ≠ 0 then (0, 0, 13) else ((pairN Rs Ys bias sa).1, 73, 0)) := Lib.hid (by unfold valN; simp only [← hsa, ← hpp]; simp)
  clear hF hlen hb hra hadd hq hpp hy hz hsa hcX hrF hrR hX hFb L1 L2 L3 hpl hsl
  unfold fileA
  go_enter Try.func12, Try.ntmps12
  go_upto_region 1 with (fail)
  rw [← HX.out, ← HFB.out]
  clear HX
  go_wp2_with fail
  refine (low_any (q : Int) X).mono ?_
  rintro e w' ⟨rfl, hw⟩
  obtain rfl := hw.symm
  clear hw
  rw [HPQ.out]
  clear wa wb c0
  go_upto_region 2 with (fail)
  have wc := WC.out
  have wd := WD.out
  have wc2 := WC2.out
  have wd2 := WD2.out
  refine wp_region_C (fun w' => Chg [] X w' ∧ w'.row? Fb = some (fileA v) ∧ w'.cell? ⟨Fb + 1, 2, none⟩ = some (.int .i64 sy) ∧ w'.cell? ⟨Fb + 1, 3, none⟩ = some (.int .u32 (add : Int))) [(0, 1), (1, 0), (2, 0), (3, 1), (5, 0), (6, 1), (7, 0), (4, 2), (8, 0), (9, 0), (10, 0)] rfl (by kernel_rfl) ?hSA ?hTA
  case hSA => exact ⟨(Chg.refl _ _).drew, HRF.out _ (Chg.refl _ _).drew, (HRR.out _ (Chg.refl _ _).drew).2.2.1, (HRR.out _ (Chg.refl _ _).drew).2.2.2⟩
  refine wpT_load_part a30 [v.e, v.sg, .slice v.prl v.nrl v.crl, .slice v.psy v.nsy v.csy] (some 24) _ rfl rfl rfl (by rfl) rfl rfl (fun w' hw j u hu => by rw [Nat.zero_add, row_cell hw.2.1]; simpa [fileA] using hu) ?_
  try simp only [Act.put, List.setIfInBounds_toArray, List.set_cons_zero, List.set_cons_succ]
  try simp only [Act.put, List.setIfInBounds_toArray, List.set_cons_zero, List.set_cons_succ]
  refine wpT_pureD (v := ?_) (some 25) rfl rfl (by rfl) (fun w' => ?_) ?_
  rotate_left
  · (go_simp; try with_reducible rfl)
  try simp only [Act.put, List.setIfInBounds_toArray, List.set_cons_zero, List.set_cons_succ]
  refine wpT_pureD (v := ?_) (some 26) rfl rfl (by rfl) (fun w' => ?_) ?_
  rotate_left
  · (go_simp; try with_reducible rfl)
  try simp only [Act.put, List.setIfInBounds_toArray, List.set_cons_zero, List.set_cons_succ]
  refine wpT_readD (v := ?_) (some 27) rfl rfl (by rfl) (fun w' hw => ?_) ?_
  rotate_left
  · (obtain ⟨q0, q1, q2, q3⟩ := hw; go_simp; try with_reducible rfl)
  try simp only [Act.put, List.setIfInBounds_toArray, List.set_cons_zero, List.set_cons_succ]
  refine wpT_pureD (v := ?_) (some 29) rfl rfl (by rfl) (fun w' => ?_) ?_
  rotate_left
  · (go_simp; try with_reducible rfl)
  try simp only [Act.put, List.setIfInBounds_toArray, List.set_cons_zero, List.set_cons_succ]
  refine wpT_readD (v := ?_) (some 30) rfl rfl (by rfl) (fun w' hw => ?_) ?_
  rotate_left
  · (obtain ⟨q0, q1, q2, q3⟩ := hw; go_simp; try with_reducible rfl)
  try simp only [Act.put, List.setIfInBounds_toArray, List.set_cons_zero, List.set_cons_succ]
  refine wpT_pureD (v := ?_) (some 31) rfl rfl (by rfl) (fun w' => ?_) ?_
  rotate_left
  · (go_simp; try with_reducible rfl)
  try simp only [Act.put, List.setIfInBounds_toArray, List.set_cons_zero, List.set_cons_succ]
  refine wpT_eff rfl (by rfl) (fun K hK => ?_)
  go_wp2_with fail
  refine (rsym_any (HFX.out _ (Chg.refl _ _).drew) bias HB.out sy).mono ?_
  rintro e w3 ⟨rfl, hc3⟩
  rw [← HY.out]
  go_wp2_with fail
  have hc4 := (Chg.refl [] X).drew.trans hc3
  refine hK _ _ ⟨hc4, HRF.out _ hc4, (HRR.out _ hc4).2.2.1, (HRR.out _ hc4).2.2.2⟩ ?_
  clear hK K
  refine wpT_pureD (v := ?_) (some 32) rfl rfl (by rfl) (fun w' => ?_) ?_
  rotate_left
  · (go_simp; try with_reducible rfl)
  try simp only [Act.put, List.setIfInBounds_toArray, List.set_cons_zero, List.set_cons_succ]
  refine wpT_call (d := some 33) (f := 24) (args := #[.int .i64 (z : Int)]) (v := .int .i64 (sa : Int)) rfl rfl (by rfl) (fun w' => by first | rfl | (go_simp; done) | (go_simp; rfl)) (fun w' => by rw [← HZS.out]; exact low_any (z : Int) w') ?_
  try simp only [Act.put, List.setIfInBounds_toArray, List.set_cons_zero, List.set_cons_succ]
  try simp only [Act.put, List.setIfInBounds_toArray, List.set_cons_zero, List.set_cons_succ]
  refine wpT_pureD (v := ?_) (some 10) rfl rfl (by rfl) (fun w' => ?_) ?_
  rotate_left
  · (go_simp; try with_reducible rfl)
  try simp only [Act.put, List.setIfInBounds_toArray, List.set_cons_zero, List.set_cons_succ]
  refine wpT_end ?_
  have HC4 := Lib.hid hc4
  have c1 := (HRR.out _ hc4).2.1
  clear wc wd wc2 wd2 hc3 hc4
  have HFW := Lib.hid (HFX.out _ HC4.out)
  have cF : w3.cell? ⟨Fb, 2, none⟩ = some (.slice v.prl v.nrl v.crl) := by rw [row_cell (HRF.out _ HC4.out)]; rfl
  have HPP2 := Lib.hid HFW.out.rp
  clear cF
  go_wp2_with fail
  clear c1
  go_loopw [14] (fun i wr => ∃ j : Nat, j ≤ v.nrl ∧ i = .int .i64 (j : Int) ∧ (add = 0 → (Rs.take j).find? (pairP bias sa) = none) ∧ Chg [] w3 wr) (fun i _ => v.nrl - (intOf i).toNat)
  case atStart => exact ⟨0, by omega, rfl, fun _ => rfl, Chg.refl _ _⟩
  case round =>
    obtain ⟨j, hj, rfl, hw0, hch⟩ := hrel
    have HJJ := Lib.hid hj
    have HW0 := Lib.hid hw0
    have HC := Lib.hid hch
    have HXW : Hid (Chg [] X wr) := Lib.hid (HC4.out.trans hch)
    clear hj hw0 hch
    have cW : wr.cell? ⟨Fb, 2, none⟩ = some (.slice v.prl v.nrl v.crl) := by rw [row_cell (HRF.out _ HXW.out)]; rfl
    by_cases hjn : j < v.nrl
    · have HJN := Lib.hid hjn
      have dI : (j : Int) < (v.nrl : Int) := by omega
      obtain ⟨r, hr⟩ : ∃ r, Rs[j]? = some r := ⟨_, List.getElem?_eq_getElem (by have := HFW.out.rn; omega)⟩
      obtain ⟨hsc, hst, hsz⟩ := HFW.out.rl.keep HC.out (by simp) j r hr
      obtain ⟨PP, hPP⟩ : ∃ P, P = v.prl := ⟨_, rfl⟩
      rw [← hPP] at cW
      have HW1 : Hid (add = 0 → (pairP bias sa r = true → Rs.find? (pairP bias sa) = some r) ∧ (pairP bias sa r = false → (Rs.take (j + 1)).find? (pairP bias sa) = none)) := Lib.hid (fun h => find_take Rs (pairP bias sa) j r hr (HW0.out h))
      have HSC : Hid (∀ i u, (RlC r)[i]? = some u → wr.cell? ⟨v.brl, v.orl + j * 4 + i, none⟩ = some u) := Lib.hid hsc
      have hpe := HPP2.out (by omega)
      rw [← hPP] at hpe
      subst hpe
      have HST := Lib.hid hst
      have HSZ := Lib.hid hsz
      have HW : Hid (wrap64 ((j : Int) + 1) = ((j + 1 : Nat) : Int)) := Lib.hid (wrap1 j (by have := HL.out; omega))
      obtain ⟨Z, hZ⟩ : ∃ Z, Z = wr.alloc (.cells (RlC r).toArray 32) := ⟨_, rfl⟩
      obtain ⟨B, hB⟩ : ∃ B, B = wr.heap.size := ⟨_, rfl⟩
      have hrZ : Z.row? B = some (RlC r).toArray := by rw [hZ, hB]; exact row_alloc_at _ _ _ _ rfl
      have hcZ : Chg [] X Z := by rw [hZ]; exact HXW.out.alloc _
      have HCZ := Lib.hid hcZ
      have HCW : Hid (Chg [] w3 Z) := Lib.hid (by rw [hZ]; exact HC.out.alloc _)
      have HZ := Lib.hid hZ
      have HB2 := Lib.hid hB
      obtain ⟨ra', ty, sy', add'⟩ := r
      have C0 : Hid (Z.cell? ⟨B, 0, none⟩ = some (.int .u32 (ra' : Int))) := Lib.hid (by rw [row_cell hrZ]; rfl)
      have C1 : Hid (Z.cell? ⟨B, 1, none⟩ = some (.int .i64 ty)) := Lib.hid (by rw [row_cell hrZ]; rfl)
      have C2 : Hid (Z.cell? ⟨B, 2, none⟩ = some (.int .i64 sy')) := Lib.hid (by rw [row_cell hrZ]; rfl)
      have C3 : Hid (Z.cell? ⟨B, 3, none⟩ = some (.int .u32 (add' : Int))) := Lib.hid (by rw [row_cell hrZ]; rfl)
      have HRZ := Lib.hid hrZ
      obtain ⟨q1, hq1⟩ : ∃ q, q = bias + ra' := ⟨_, rfl⟩
      obtain ⟨p1, hp1⟩ : ∃ p, p = (bias + ra') % 4294967296 := ⟨_, rfl⟩
      have hra' : ra' < 8589934592 := Nat.lt_trans HST.out (by decide)
      have hbi : bias < 8589934592 := Nat.lt_trans HB.out (by decide)
      have HV1 := Lib.hid (w64id ra' hra').1
      have HV2 := Lib.hid (w64add bias ra' q1 hbi hra' hq1).1
      have HLQ : Hid (lowN (q1 : Int) = p1) := Lib.hid (by rw [lowN_nat, hp1, hq1])
      have HPD : Hid (pairP bias sa ⟨ra', ty, sy', add'⟩ = (decide (ty = 23) && decide (p1 = sa))) := Lib.hid (by rw [hp1]; rfl)
      have hp1l : p1 < 4294967296 := by rw [hp1]; exact Nat.mod_lt _ (by decide)
      have HP1L := Lib.hid hp1l
      clear hr hsc hst hsz hZ hB hrZ hcZ hjn hPP hq1 hp1 hra' hbi hp1l
      go_upto_region 33 with (first | (refine wpList_load_part a32 (RlC ⟨ra', ty, sy', add'⟩) rfl _ rfl rfl rfl HSC.out ?_) | (refine wpList_store_new a32 _ _ rfl rfl rfl rfl rfl rfl rfl rfl ?_))
      rw [← HZ.out, ← HB2.out]
      clear HZ HB2 dI cW
      have c0 := C0.out
      have v1 := HV1.out
      have v2 := HV2.out
      go_wp2_with fail
      refine (low_any (q1 : Int) Z).mono ?_
      rintro e w' ⟨rfl, hw⟩
      obtain rfl := hw.symm
      clear hw
      rw [HLQ.out]
      clear c0 v1 v2
      have cA : Z.cell? ⟨Fb + 1, 3, none⟩ = some (.int .u32 (add : Int)) := (HRR.out _ HCZ.out).2.2.2
      have cT : Z.cell? ⟨Fb + 1, 1, none⟩ = some (.int .i64 24) := (HRR.out _ HCZ.out).2.1
      have HNEXT : Hid (pairP bias sa ⟨ra', ty, sy', add'⟩ = false ∨ add ≠ 0 → (add = 0 → (Rs.take (j + 1)).find? (pairP bias sa) = none)) := Lib.hid (fun h h0 => (HW1.out h0).2 (h.resolve_right (fun h' => h' h0)))
      have c1 := C1.out
      by_cases hty : ty = 23
      · subst hty
        by_cases hpa : p1 = sa
        · subst hpa
          by_cases ha0 : add = 0
          · subst ha0
            have HPT : Hid (pairP bias p1 ⟨ra', 23, sy', add'⟩ = true) := Lib.hid (by rw [HPD.out]; simp)
            obtain ⟨y1, hy1⟩ : ∃ y, y = symN Ys bias sy' := ⟨_, rfl⟩
            have hy1l : y1 < 4294967296 := by rw [hy1]; exact symN_lt _ _ _
            obtain ⟨z1, hz1⟩ : ∃ z, z = y1 + add' := ⟨_, rfl⟩
            obtain ⟨z2, hz2⟩ : ∃ z, z = subw (z1 % 4294967296) p1 := ⟨_, rfl⟩
            have k1 : y1 < 8589934592 := Nat.lt_trans hy1l (by decide)
            have k2 : add' < 8589934592 := Nat.lt_trans HSZ.out (by decide)
            have WX := Lib.hid (w64id add' k2)
            have WY := Lib.hid (w64add y1 add' z1 k1 k2 hz1)
            have k3 : z1 < 8589934592 := by rw [hz1]; have := HSZ.out; omega
            have WZ : Hid (wrap64 ((z1 : Int) - (p1 : Int)) = (z1 : Int) - (p1 : Int)) := Lib.hid (w64sub z1 p1 k3 (Nat.lt_trans HP1L.out (by decide)))
            have WZ2 : Hid (IntKind.i64.wrap ((z1 : Int) - (p1 : Int)) = (z1 : Int) - (p1 : Int)) := Lib.hid (w64sub2 z1 p1 k3 (Nat.lt_trans HP1L.out (by decide)))
            have HLZ : Hid (lowN ((z1 : Int) - (p1 : Int)) = z2) := Lib.hid (by rw [lowN_sub _ _ HP1L.out, hz2])
            have HV : Hid (valN bias Rs Ys ⟨ra, 24, sy, 0⟩ = (z2, 73, 0)) := Lib.hid (by
              have e : pairN Rs Ys bias p1 = (z2, true) := by
                unfold pairN
                rw [(HW1.out rfl).1 HPT.out]
                show (pairV Ys bias p1 _, true) = _
                unfold pairV
                simp only []
                rw [← hy1, ← hz1, ← hz2]
              rw [HVN.out, e, if_neg (by simp)])
            have HY1 := Lib.hid hy1
            clear hy1 hy1l hz1 hz2 k1 k2 k3 HVN
            go_upto_region 38 with (fail)
            have wx := WX.out.1
            have wx2 := WX.out.2
            have wy := WY.out.1
            have wy2 := WY.out.2
            refine wp_region_C (fun w' => Chg [] Z w' ∧ w'.row? Fb = some (fileA v) ∧ w'.cell? ⟨B, 2, none⟩ = some (.int .i64 sy') ∧ w'.cell? ⟨B, 3, none⟩ = some (.int .u32 (add' : Int))) [(0, 1), (1, 0), (2, 0), (3, 1), (5, 0), (6, 1), (7, 0), (9, 0), (12, 0), (4, 2), (8, 0), (10, 0), (11, 0), (13, 0), (14, 0), (15, 0)] rfl (by kernel_rfl) ?hSB ?hTB
            case hSB => exact ⟨(Chg.refl _ _).drew, HRF.out _ (HCZ.out.trans (Chg.refl _ _).drew), cell_keep C2.out (Chg.refl [] _).drew (by simp), cell_keep C3.out (Chg.refl [] _).drew (by simp)⟩
            refine wpT_load_part a30 [v.e, v.sg, .slice v.prl v.nrl v.crl, .slice v.psy v.nsy v.csy] (some 125) _ rfl rfl rfl (by rfl) rfl rfl (fun w' hw j u hu => by rw [Nat.zero_add, row_cell hw.2.1]; simpa [fileA] using hu) ?_
            try simp only [Act.put, List.setIfInBounds_toArray, List.set_cons_zero, List.set_cons_succ]
            try simp only [Act.put, List.setIfInBounds_toArray, List.set_cons_zero, List.set_cons_succ]
            refine wpT_pureD (v := ?_) (some 126) rfl rfl (by rfl) (fun w' => ?_) ?_
            rotate_left
            · (go_simp; try with_reducible rfl)
            try simp only [Act.put, List.setIfInBounds_toArray, List.set_cons_zero, List.set_cons_succ]
            refine wpT_pureD (v := ?_) (some 127) rfl rfl (by rfl) (fun w' => ?_) ?_
            rotate_left
            · (go_simp; try with_reducible rfl)
            try simp only [Act.put, List.setIfInBounds_toArray, List.set_cons_zero, List.set_cons_succ]
            refine wpT_readD (v := ?_) (some 128) rfl rfl (by rfl) (fun w' hw => ?_) ?_
            rotate_left
            · (obtain ⟨q0, q1, q2, q3⟩ := hw; go_simp; try with_reducible rfl)
            try simp only [Act.put, List.setIfInBounds_toArray, List.set_cons_zero, List.set_cons_succ]
            refine wpT_pureD (v := ?_) (some 130) rfl rfl (by rfl) (fun w' => ?_) ?_
            rotate_left
            · (go_simp; try with_reducible rfl)
            try simp only [Act.put, List.setIfInBounds_toArray, List.set_cons_zero, List.set_cons_succ]
            refine wpT_readD (v := ?_) (some 131) rfl rfl (by rfl) (fun w' hw => ?_) ?_
            rotate_left
            · (obtain ⟨q0, q1, q2, q3⟩ := hw; go_simp; try with_reducible rfl)
            try simp only [Act.put, List.setIfInBounds_toArray, List.set_cons_zero, List.set_cons_succ]
            refine wpT_pureD (v := ?_) (some 132) rfl rfl (by rfl) (fun w' => ?_) ?_
            rotate_left
            · (go_simp; try with_reducible rfl)
            try simp only [Act.put, List.setIfInBounds_toArray, List.set_cons_zero, List.set_cons_succ]
            refine wpT_pureD (v := ?_) (some 134) rfl rfl (by rfl) (fun w' => ?_) ?_
            rotate_left
            · (go_simp; try with_reducible rfl)
            try simp only [Act.put, List.setIfInBounds_toArray, List.set_cons_zero, List.set_cons_succ]
            refine wpT_pureD (v := ?_) (some 137) rfl rfl (by rfl) (fun w' => ?_) ?_
            rotate_left
            · (go_simp; try with_reducible rfl)
            try simp only [Act.put, List.setIfInBounds_toArray, List.set_cons_zero, List.set_cons_succ]
            refine wpT_eff rfl (by rfl) (fun K hK => ?_)
            go_wp2_with fail
            refine (rsym_any (HFX.out _ (HCZ.out.trans (Chg.refl _ _).drew)) bias HB.out sy').mono ?_
            rintro e w5 ⟨rfl, hc5⟩
            rw [← HY1.out]
            go_wp2_with fail
            have hc6 := (Chg.refl [] Z).drew.trans hc5
            refine hK _ _ ⟨hc6, HRF.out _ (HCZ.out.trans hc6), cell_keep C2.out hc6 (by simp), cell_keep C3.out hc6 (by simp)⟩ ?_
            clear hK K
            refine wpT_pureD (v := ?_) (some 133) rfl rfl (by rfl) (fun w' => ?_) ?_
            rotate_left
            · (go_simp; try with_reducible rfl)
            try simp only [Act.put, List.setIfInBounds_toArray, List.set_cons_zero, List.set_cons_succ]
            refine wpT_pureD (v := ?_) (some 135) rfl rfl (by rfl) (fun w' => ?_) ?_
            rotate_left
            · (go_simp; try with_reducible rfl)
            try simp only [Act.put, List.setIfInBounds_toArray, List.set_cons_zero, List.set_cons_succ]
            have wz := WZ.out
            have wz2 := WZ2.out
            refine wpT_call (d := some 136) (f := 24) (args := #[.int .i64 ((z1 : Int) - (p1 : Int))]) (v := .int .i64 (z2 : Int)) rfl rfl (by rfl) (fun w' => by first | rfl | (go_simp; done) | (go_simp; rfl)) (fun w' => by rw [← HLZ.out]; exact low_any _ w') ?_
            try simp only [Act.put, List.setIfInBounds_toArray, List.set_cons_zero, List.set_cons_succ]
            try simp only [Act.put, List.setIfInBounds_toArray, List.set_cons_zero, List.set_cons_succ]
            refine wpT_pureD (v := ?_) (some 6) rfl rfl (by rfl) (fun w' => ?_) ?_
            rotate_left
            · (go_simp; try with_reducible rfl)
            try simp only [Act.put, List.setIfInBounds_toArray, List.set_cons_zero, List.set_cons_succ]
            refine wpT_pureD (v := ?_) (some 7) rfl rfl (by rfl) (fun w' => ?_) ?_
            rotate_left
            · (go_simp; try with_reducible rfl)
            try simp only [Act.put, List.setIfInBounds_toArray, List.set_cons_zero, List.set_cons_succ]
            refine wpT_pureD (v := ?_) (some 8) rfl rfl (by rfl) (fun w' => ?_) ?_
            rotate_left
            · (go_simp; try with_reducible rfl)
            try simp only [Act.put, List.setIfInBounds_toArray, List.set_cons_zero, List.set_cons_succ]
            refine wpT_end ?_
            have HC6 := Lib.hid hc6
            clear wx wx2 wy wy2 wz wz2 hc5 hc6
            go_wp2
            go_ret3
            exact ⟨by rw [HV.out]; rfl, HCX.out.trans (HCZ.out.trans HC6.out)⟩
          · have ha1 : ((add : Int) == 0) = false := by rw [beq_eq_false_iff_ne]; omega
            have HNX := Lib.hid (HNEXT.out (.inr ha0))
            go_wp2
            case roundEnd => exact ⟨⟨j + 1, HJN.out, by rw [HW.out], HNX.out, HCW.out⟩, by rw [HW.out]; simp only [intOf, Int.toNat_natCast]; have := HJN.out; omega⟩
        · have HNX := Lib.hid (HNEXT.out (.inl (by rw [HPD.out]; simp [hpa])))
          have pI : ¬ (p1 : Int) = (sa : Int) := by omega
          go_wp2
          case roundEnd => exact ⟨⟨j + 1, HJN.out, by rw [HW.out], HNX.out, HCW.out⟩, by rw [HW.out]; simp only [intOf, Int.toNat_natCast]; have := HJN.out; omega⟩
      · have HNX := Lib.hid (HNEXT.out (.inl (by rw [HPD.out]; simp [hty])))
        have hb1 : (ty == 23) = false := by simp [hty]
        go_wp2
        case roundEnd => exact ⟨⟨j + 1, HJN.out, by rw [HW.out], HNX.out, HCW.out⟩, by rw [HW.out]; simp only [intOf, Int.toNat_natCast]; have := HJN.out; omega⟩
    · have hjn2 : j = v.nrl := by have := HJJ.out; omega
      have dI : ¬ (j : Int) < (v.nrl : Int) := by omega
      have HF : Hid (valN bias Rs Ys ⟨ra, 24, sy, add⟩ = (0, 0, 13)) := Lib.hid (by
        rw [HVN.out, if_pos]
        by_cases h0 : add = 0
        · have := HW0.out h0
          rw [List.take_of_length_le (by have := HFW.out.rn; omega)] at this
          left
          unfold pairN; rw [this]
        · exact .inr h0)
      clear hjn hjn2
      go_wp2
      go_ret3
      exact ⟨by rw [HF.out]; rfl, HCX.out.trans HXW.out⟩
end Go.Proofs.L
