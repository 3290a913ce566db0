/- Proved here: lemmas and contracts (Lk6) for the laws of this seat, for all values of the stated types; no further condition. -/
import Derived.Test.YtjbplncpcgfaoaaLk5c
open Go Go.RowKit Go.Lib Go.Maps
namespace Go.Proofs.L
attribute [local irreducible] wpT
/-! Link -/
theorem SegsOk.keep {w w' : World} {E : List Nat} {base : Nat} {v : Value} {fb ft : Nat → Nat} {C D : List Nat} (h : SegsOk w base v fb ft C D) (hc : Chg E w w') (hE : ∀ k ∈ E, k < base) : SegsOk w' base v fb ft C D := by
  obtain ⟨vc, vd, h1, h2, h3⟩ := h.ex
  exact ⟨vc, vd, ownsRow_chg h1 hc (fun k hk e => by have := (h1.lt k hk).1; have := hE k e; omega), ownsRow_chg h2 hc (fun k hk e => by have := (h2.lt k hk).1; have := hE k e; omega), ownsRow_chg h3 hc (fun k hk e => by have := (h3.lt k hk).1; have := hE k e; omega)⟩
theorem SegsOk.low {w : World} {b1 b2 : Nat} {v : Value} {fb ft : Nat → Nat} {C D : List Nat} (h : SegsOk w b1 v fb ft C D) (hb : b2 ≤ b1) : SegsOk w b2 v fb ft C D := by
  obtain ⟨vc, vd, h1, h2, h3⟩ := h.ex
  exact ⟨vc, vd, own_base h1 hb, own_base h2 hb, own_base h3 hb⟩
theorem symC_get {P : List (ByteArray × Nat)} {z : Nat} {t : ByteArray} (hz : z = numP P t) (h : z ≠ 0) : ∃ y : Nat, (symC P)[z]? = some (.int .u32 (y : Int)) := by
  obtain ⟨k, rfl⟩ : ∃ k, z = k + 1 := ⟨z - 1, by omega⟩
  obtain ⟨x, hx⟩ := numP_get hz.symm
  exact ⟨x, by unfold symC; simp [hx]⟩
set_option maxRecDepth 100000 in
set_option maxHeartbeats 8000000 in
theorem link_any {W : World} {p : Option Addr} {b o n c : Nat} {L : List Ob} (hS : ObsAt W b o L) (hn : L.length = n) (hp : 0 < n → p = some ⟨b, o, none⟩) (hR : ∀ s ∈ L, ∀ r ∈ s.R, r.name.size ≤ maxLen) :
    Calls Try.prog 9 #[.slice p n c] W (LinkPost W L) := by
  have HS : Hid (∀ V, Chg [] W V → ObsAt V b o L) := Lib.hid fun V hV => hS.keep hV
  have HN := Lib.hid hn
  have HP := Lib.hid hp
  have HRN := Lib.hid hR
  clear hS hn hp hR
  go_enter Try.func9, Try.ntmps9
  go_upto_region 1 with (fail)
  obtain ⟨R2, hR2⟩ : ∃ H, H = W.heap.size := ⟨_, rfl⟩
  obtain ⟨V0, hV⟩ : ∃ V, V = W.alloc (.cells zF 30) := ⟨_, rfl⟩
  have hV' : W.alloc (.cells #[.int .u32 0, .slice none 0 0, .slice none 0 0, .slice none 0 0] 30) = V0 := hV.symm
  rw [hV', ← hR2]
  have HR2 : Hid (∀ V, Chg [] V0 V → V.row? R2 = some zF) := Lib.hid fun V hc => (hc.row (row_lt (by rw [hV]; exact row_alloc_at _ _ _ _ hR2)) (by simp)).trans (by rw [hV]; exact row_alloc_at _ _ _ _ hR2)
  have HC0 : Hid (Chg [] W V0 ∧ W.heap.size ≤ R2 ∧ R2 < V0.heap.size) := Lib.hid ⟨by rw [hV]; exact (Chg.refl _ _).alloc _, Nat.le_of_eq hR2.symm, by rw [hV, hR2]; simp⟩
  clear hR2 hV hV'
  skip
  go_cut [32] (fun v wx => v = .bool (e1 L) ∧ wx = V0)
  case first =>
    go_wp2_with fail
    all_goals go_meet
    all_goals refine ⟨congrArg Value.bool ?_, rfl⟩
    all_goals (rw [Bool.eq_iff_iff]; unfold e1; rw [HN.out]; simp; try omega)
  case rest =>
    obtain ⟨rfl, h⟩ := hcut
    obtain rfl := h.symm
    cases h1 : e1 L
    case true =>
      have HE1 := Lib.hid h1
      clear h1
      have r2 := HR2.out V0 (Chg.refl _ _)
      go_wp2_with (refine wpList_store_row a30 _ _ rfl rfl rfl rfl rfl r2 rfl rfl rfl ?_)
      refine bodyPost_ret (ret_cell2 rfl a30 rfl (by rw [row_setRow, if_pos rfl, r2]; rfl) rfl rfl) rfl ?_
      exact post_bad (k := 1) (by decide) (by unfold errL; rw [HE1.out]; rfl) (HC0.out.1.setRow (.inr HC0.out.2.1) _)
    case false =>
      have HE1 := Lib.hid h1
      have H16 : Hid (1 ≤ n ∧ n ≤ 16) := Lib.hid (by unfold e1 at h1; rw [decide_eq_false_iff_not] at h1; have := HN.out; omega)
      obtain rfl := HP.out (by have := H16.out; omega)
      clear h1 HP
      go_wp2_with fail
      go_loopw [36] (fun i wr => ∃ j : Nat, j ≤ n ∧ i = .int .i64 (j : Int) ∧ (∀ i s, i < j → L[i]? = some s → rightB s = true) ∧ Chg [] V0 wr) (fun i _ => n - (intOf i).toNat)
      case atStart => exact ⟨0, Nat.zero_le _, rfl, fun i s hi => by omega, Chg.refl _ _⟩
      case round =>
        obtain ⟨j, hj, rfl, hall, hch⟩ := hrel
        have HJ := Lib.hid hj
        have HALL := Lib.hid hall
        have HCH := Lib.hid hch
        clear hj hall hch
        by_cases hjn : j < n
        · skip
          have HJN := Lib.hid hjn
          have dJ : (j : Int) < (n : Int) := by omega
          have HWJ := Lib.hid (wrapK j (by have := H16.out; omega))
          obtain ⟨s, hs⟩ : ∃ s, L[j]? = some s := ⟨_, List.getElem?_eq_getElem (by rw [HN.out]; exact hjn)⟩
          have HS2 := Lib.hid hs
          have HSC := Lib.hid (HS.out _ (HC0.out.1.trans HCH.out) j s hs).1
          obtain ⟨Z, hZ⟩ : ∃ Z, Z = wr.alloc (.cells (obA s) 53) := ⟨_, rfl⟩
          obtain ⟨B, hB⟩ : ∃ b, b = wr.heap.size := ⟨_, rfl⟩
          have hc2 : Chg [] wr Z := by rw [hZ]; exact (Chg.refl _ _).alloc _
          have HRB : Hid (Z.row? B = some (obA s)) := Lib.hid (by rw [hZ]; exact row_alloc_at _ _ _ _ hB)
          have HZC : Hid (Chg [] V0 Z) := Lib.hid (HCH.out.trans hc2)
          have HRI := Lib.hid (right_any s Z (HS.out _ (HC0.out.1.trans (HCH.out.trans hc2)) j s hs).2)
          have HLD : Hid (∀ (q : Nat) (u : Value), (obA s).toList[q]? = some u → Z.cell? ⟨B, 0 + q, none⟩ = some u) := Lib.hid fun q u hu => by rw [row_cell HRB.out, Nat.zero_add, ← Array.getElem?_toList]; exact hu
          have HZ2 := Lib.hid hZ
          have HB2 := Lib.hid hB
          clear hs hZ hB hc2 hjn
          go_upto_region 6 with (first | (refine wpList_load_part a53 (obA s).toList rfl _ rfl rfl rfl HSC.out ?_) | (refine wpList_store_new a53 _ _ rfl rfl rfl rfl rfl rfl rfl rfl ?_))
          rw [← HZ2.out, ← HB2.out]
          clear HZ2 HB2 dJ
          go_wp2_with (refine wpList_load_part a53 (obA s).toList rfl _ rfl rfl rfl HLD.out ?_)
          refine HRI.out.mono ?_
          rintro e w5 ⟨rfl, hc5⟩
          have HC5 := Lib.hid (HZC.out.trans hc5)
          clear hc5
          cases hb : rightB s
          case false =>
            have HRF := Lib.hid hb
            have r2 := HR2.out w5 HC5.out
            clear hb
            go_wp2_with (refine wpList_store_row a30 _ _ rfl rfl rfl rfl rfl r2 rfl rfl rfl ?_)
            refine bodyPost_ret (ret_cell2 rfl a30 rfl (by rw [row_setRow, if_pos rfl, r2]; rfl) rfl rfl) rfl ?_
            exact post_bad (k := 1) (by decide) (by unfold errL; rw [HE1.out, show e2 L = true by unfold e2; rw [all_bad HS2.out HRF.out]; rfl]; rfl) ((HC0.out.1.trans HC5.out).setRow (.inr HC0.out.2.1) _)
          case true =>
            have HRF := Lib.hid hb
            clear hb
            go_wp2_with fail
            case roundEnd => exact ⟨⟨j + 1, HJN.out, by rw [HWJ.out], fun i x hi hx => by
              by_cases e : i = j
              · subst e; rw [HS2.out] at hx; obtain rfl := Option.some.inj hx; exact HRF.out
              · exact HALL.out i x (by omega) hx, HC5.out⟩, by rw [HWJ.out]; simp only [intOf, Int.toNat_natCast]; have := HJN.out; omega⟩
        · have dJ : ¬ (j : Int) < (n : Int) := by omega
          have HE2 : Hid (e2 L = false) := Lib.hid (by
            unfold e2
            rw [all_good fun i x hx => HALL.out i x (by
              have := (List.getElem?_eq_some_iff.1 hx).1
              have := HN.out
              omega) hx]
            rfl)
          clear hjn
          have HSR : Hid (∀ s ∈ L, rightB s = true) := Lib.hid (by
            have h := HE2.out
            unfold e2 at h
            simp only [Bool.not_eq_false'] at h
            exact List.all_eq_true.1 h)
          have HSZ : Hid (∀ s ∈ L, s.nc ≤ 16384 ∧ s.nd ≤ 16384 ∧ s.z ≤ 16384) := Lib.hid fun s hs => by
            have h := HSR.out s hs
            unfold rightB at h
            rw [Bool.and_eq_true, Bool.and_eq_true] at h
            have h2 := h.1.1
            unfold baseB at h2
            rw [decide_eq_true_eq] at h2
            exact ⟨h2.1, h2.2.1, h2.2.2.1⟩
          have HSM : Hid (∀ (k : Int) i, i ≤ 16 → sumO L k i ≤ 262144) := Lib.hid fun k i hi => Nat.le_trans (sumO_le k HSZ.out i) (by omega)
          have HPL := Lib.hid (plan_any (c := c) (HS.out wr (HC0.out.1.trans HCH.out)) HN.out H16.out.1 H16.out.2 rfl HSZ.out)
          go_wp2_with fail
          refine HPL.out.mono ?_
          rintro e w6 ⟨A, rfl, hA, hAs, hc6⟩
          obtain ⟨f, hf⟩ : ∃ f : Nat → Nat, f = fun s : Nat => sumO L (s : Int) n := ⟨_, rfl⟩
          rw [← hf]
          have HF := Lib.hid hf
          have HA := Lib.hid hA
          have HAS : Hid (V0.heap.size ≤ A) := Lib.hid (Nat.le_trans HCH.out.size hAs)
          have HC6 : Hid (Chg [] V0 w6) := Lib.hid (HCH.out.trans hc6)
          have HFL : Hid (∀ s, f s ≤ 262144) := Lib.hid fun s => by rw [hf]; exact HSM.out _ _ H16.out.2
          clear hf hA hAs hc6 dJ HPL
          go_upto_region 10 with (first | (refine wpList_store_new a71 _ _ rfl rfl rfl rfl rfl rfl rfl rfl ?_))
          obtain ⟨Z, hZ⟩ : ∃ Z, Z = w6.alloc (.cells (tRow f) 71) := ⟨_, rfl⟩
          obtain ⟨T7, hT⟩ : ∃ b, b = w6.heap.size := ⟨_, rfl⟩
          rw [← hZ, ← hT]
          have hc2 : Chg [] w6 Z := by rw [hZ]; exact (Chg.refl _ _).alloc _
          have HR7 : Hid (Z.row? T7 = some (tRow f)) := Lib.hid (by rw [hZ]; exact row_alloc_at _ _ _ _ hT)
          have HAZ : Hid (Z.row? A = some (rowF n fun q s => sumO L (s : Int) q)) := Lib.hid ((hc2.row (row_lt HA.out) (by simp)).trans HA.out)
          have HCZ : Hid (Chg [] V0 Z) := Lib.hid (HC6.out.trans hc2)
          clear hZ hT hc2
          have c0 : Z.cell? ⟨T7, 0, none⟩ = some (.int .u32 (f 0 : Int)) := by rw [row_cell HR7.out]; rfl
          obtain ⟨b1, hb1⟩ : ∃ b1, b1 = upN (256 + f 0) := ⟨_, rfl⟩
          have w1 : IntKind.u32.wrap (256 + (f 0 : Int)) = ((256 + f 0 : Nat) : Int) := u32add (a := 256) (by have := HFL.out 0; omega)
          have HUP := up_any (256 + f 0) (by have := HFL.out 0; omega)
          rw [← hb1] at HUP
          have HUP := Lib.hid HUP
          have HB1 := Lib.hid hb1
          clear hb1
          go_wp2_with fail
          rw [show (256 : Int) + (f 0 : Int) = ((256 + f 0 : Nat) : Int) by omega]
          refine (HUP.out Z).mono ?_
          rintro e w7 ⟨rfl, hw7⟩
          obtain rfl := hw7.symm
          clear hw7 c0 w1
          go_upto_region 11 with (first | (refine wpList_store_new a71 _ _ rfl rfl rfl rfl rfl rfl rfl rfl ?_))
          obtain ⟨Y, hY⟩ : ∃ Y, Y = Z.alloc (.cells #[.int .u32 256, .int .u32 (b1 : Int), .int .u32 0] 71) := ⟨_, rfl⟩
          obtain ⟨T8, hT⟩ : ∃ b, b = Z.heap.size := ⟨_, rfl⟩
          rw [← hY, ← hT]
          have hc2 : Chg [] Z Y := by rw [hY]; exact (Chg.refl _ _).alloc _
          have HR8 : Hid (Y.row? T8 = some #[.int .u32 256, .int .u32 (b1 : Int), .int .u32 0]) := Lib.hid (by rw [hY]; exact row_alloc_at _ _ _ _ hT)
          have HY7 : Hid (Y.row? T7 = some (tRow f)) := Lib.hid ((hc2.row (row_lt HR7.out) (by simp)).trans HR7.out)
          have HYA : Hid (Y.row? A = some (rowF n fun q s => sumO L (s : Int) q)) := Lib.hid ((hc2.row (row_lt HAZ.out) (by simp)).trans HAZ.out)
          have HTN : Hid (T8 ≠ T7 ∧ T8 ≠ A ∧ V0.heap.size ≤ T8) := Lib.hid ⟨by have := row_lt HR7.out; omega, by have := row_lt HAZ.out; omega, by have := HCZ.out.size; omega⟩
          have HCY : Hid (Chg [] V0 Y) := Lib.hid (HCZ.out.trans hc2)
          clear hY hT hc2
          obtain ⟨b2, hb2⟩ : ∃ b2, b2 = b1 + f 1 := ⟨_, rfl⟩
          have HB2 := Lib.hid hb2
          have HBL : Hid (b1 ≤ 262415 ∧ b2 ≤ 600000) := Lib.hid (by have h1 := upN_le (256 + f 0); have h2 := HFL.out 0; have h3 := HFL.out 1; have h4 := HB1.out; omega)
          have w2 : IntKind.u32.wrap ((b1 : Int) + (f 1 : Int)) = (b2 : Int) := by rw [hb2]; exact u32add (by have := HBL.out; have := HFL.out 1; omega)
          have c1 : Y.cell? ⟨T8, 1, none⟩ = some (.int .u32 (b1 : Int)) := by rw [row_cell HR8.out]; rfl
          have c2 : Y.cell? ⟨T8, 2, none⟩ = some (.int .u32 0) := by rw [row_cell HR8.out]; rfl
          have f2 : Y.frozen? ⟨T8, 2, none⟩ = false := row_free HR8.out _
          have d1 : Y.cell? ⟨T7, 1, none⟩ = some (.int .u32 (f 1 : Int)) := by rw [row_cell HY7.out]; rfl
          clear hb2
          go_upto_region 12 with (fail)
          clear c1 c2 f2 d1 w2
          obtain ⟨V1, hV1⟩ : ∃ V, V = Y.setCell ⟨T8, 2, none⟩ (.int .u32 (b2 : Int)) := ⟨_, rfl⟩
          rw [← hV1]
          have hc3 : Chg [T8] Y V1 := by rw [hV1]; exact (Chg.refl [T8] Y).setCell (.inl (by simp)) _
          have HV8 : Hid (V1.row? T8 = some (tRow (bsF L))) := Lib.hid (by
            rw [hV1, row_setCell_same, HR8.out]
            have e0 : b1 = bsF L 1 := by rw [HB1.out, HF.out]; unfold bsF; rw [HN.out]; rfl
            have e1 : b2 = bsF L 2 := by rw [HB2.out, HB1.out, HF.out]; unfold bsF; rw [HN.out]; rfl
            rw [e0, e1]
            rfl)
          have HV7 : Hid (V1.row? T7 = some (tRow f)) := Lib.hid ((hc3.row (row_lt HY7.out) (by have := HTN.out; simp; omega)).trans HY7.out)
          have HVA : Hid (V1.row? A = some (rowF n fun q s => sumO L (s : Int) q)) := Lib.hid ((hc3.row (row_lt HYA.out) (by have := HTN.out; simp; omega)).trans HYA.out)
          have HCV : Hid (Chg [] V0 V1) := Lib.hid (chg_in HCY.out hc3 HTN.out.2.2)
          have HBS : Hid (bsF L 1 = b1 ∧ bsF L 2 = b2) := Lib.hid ⟨by rw [HB1.out, HF.out]; unfold bsF; rw [HN.out]; rfl, by rw [HB2.out, HB1.out, HF.out]; unfold bsF; rw [HN.out]; rfl⟩
          clear hV1 hc3
          have d0 : V1.cell? ⟨T7, 0, none⟩ = some (.int .u32 (f 0 : Int)) := by rw [row_cell HV7.out]; rfl
          have d1 : V1.cell? ⟨T7, 1, none⟩ = some (.int .u32 (f 1 : Int)) := by rw [row_cell HV7.out]; rfl
          have d2 : V1.cell? ⟨T7, 2, none⟩ = some (.int .u32 (f 2 : Int)) := by rw [row_cell HV7.out]; rfl
          obtain ⟨s1, hs1⟩ : ∃ x, x = f 0 + f 1 := ⟨_, rfl⟩
          obtain ⟨s2, hs2⟩ : ∃ x, x = s1 + f 2 := ⟨_, rfl⟩
          have w3 : IntKind.u32.wrap ((f 0 : Int) + (f 1 : Int)) = (s1 : Int) := by rw [hs1]; exact u32add (by have := HFL.out 0; have := HFL.out 1; omega)
          have w4 : IntKind.u32.wrap ((s1 : Int) + (f 2 : Int)) = (s2 : Int) := by rw [hs2]; exact u32add (by have := HFL.out 0; have := HFL.out 1; have := HFL.out 2; omega)
          have HE3 : Hid (e3 L = decide (16384 < s2 ∨ f 0 = 0)) := Lib.hid (by
            unfold e3
            rw [HN.out, hs2, hs1, HF.out]
            rfl)
          clear hs1 hs2
          go_cut [74] (fun v wx => v = .bool (e3 L) ∧ wx = V1)
          case first =>
            go_wp2_with fail
            all_goals go_meet
            all_goals refine ⟨congrArg Value.bool ?_, rfl⟩
            all_goals (rw [HE3.out, Bool.eq_iff_iff]; simp; try omega)
          case rest =>
            obtain ⟨rfl, h⟩ := hcut
            obtain rfl := h.symm
            clear d0 d1 d2 w3 w4 HE3
            cases h3 : e3 L
            case true =>
              have HE3 := Lib.hid h3
              clear h3
              have r2 := HR2.out V1 HCV.out
              go_wp2_with (refine wpList_store_row a30 _ _ rfl rfl rfl rfl rfl r2 rfl rfl rfl ?_)
              refine bodyPost_ret (ret_cell2 rfl a30 rfl (by rw [row_setRow, if_pos rfl, r2]; rfl) rfl rfl) rfl ?_
              exact post_bad (k := 2) (by decide) (by unfold errL; rw [HE1.out, HE2.out, HE3.out]; rfl) ((HC0.out.1.trans HCV.out).setRow (.inr HC0.out.2.1) _)
            case false =>
              have HE3 := Lib.hid h3
              clear h3
              have hmm := @run_makeMap Try.prog
              obtain ⟨H0, hH⟩ : ∃ H, H = V1.heap.size := ⟨_, rfl⟩
              go_upto_region 16 with (first | (refine wpList_store_new a30 _ _ rfl rfl rfl rfl rfl rfl rfl rfl ?_))
              obtain ⟨V2, hV2⟩ : ∃ V, V = ((V1.alloc (.cells #[.int .u32 0] 25)).alloc (.cells #[.int .u32 0, .slice none 0 0, .slice none 0 0, .slice (some ⟨H0, 0, none⟩) 1 1] 30)).alloc (.map #[] 0) := ⟨_, rfl⟩
              have hV2' : V2 = ((V1.alloc (.cells #[.int .u32 0] 25)).alloc (.cells #[.int .u32 0, .slice none 0 0, .slice none 0 0, .slice (some ⟨V1.heap.size, 0, none⟩) 1 1] 30)).alloc (.map #[] 0) := by rw [hV2, hH]
              rw [← hV2', ← hH]
              obtain ⟨F, hF⟩ : ∃ F, F = H0 + 1 := ⟨_, rfl⟩
              obtain ⟨m, hm⟩ : ∃ m, m = H0 + 1 + 1 := ⟨_, rfl⟩
              rw [← hm, ← hF]
              have HLF : Hid (Lf V2 H0 F m [] [] (.slice (some ⟨H0, 0, none⟩) 1 1) (.slice none 0 0)) := Lib.hid (by
                refine ⟨?_, ?_, World.ownsRow_nil _ _ _ _, ?_, ?_, by omega, by omega, by omega, by rw [hV2, hm, hH]; simp⟩
                · rw [hV2, row_alloc_past _ _ _ (by rw [hF, hH]; simp)]; exact row_alloc_at _ _ _ _ (by rw [hF, hH]; simp)
                · rw [hV2]
                  have h1 : (V1.alloc (.cells #[.int .u32 0] 25)).ownsRow H0 25 1 (.slice (some ⟨H0, 0, none⟩) 1 1) 1 [.int .u32 0] := by
                    rw [hH]; exact own_new (vs := [.int .u32 0]) (Nat.le_refl _) rfl (by decide)
                  exact (h1.alloc _).alloc _
                · intro g hg; simp only [Value.ownBlock] at hg; injection hg with hg; omega
                · intro g hg; simp [Value.ownBlock] at hg)
              have HNU : Hid (NumAt V2 m []) := Lib.hid (by
                refine ⟨.map [], ?_, ⟨fun s => rfl, fun s => by simp [has_eq, numP], isMap_empty⟩⟩
                have h := World.ownsMap_made (H := Unit) ((V1.alloc (.cells #[.int .u32 0] 25)).alloc (.cells #[.int .u32 0, .slice none 0 0, .slice none 0 0, .slice (some ⟨H0, 0, none⟩) 1 1] 30)) Try.prog 9 (plainElem Try.prog 3)
                rw [hV2, show m = ((V1.alloc (.cells #[.int .u32 0] 25)).alloc (.cells #[.int .u32 0, .slice none 0 0, .slice none 0 0, .slice (some ⟨H0, 0, none⟩) 1 1] 30)).heap.size by rw [hm, hH]; simp]
                exact h)
              have HC2 : Hid (Chg [] V1 V2 ∧ V1.heap.size = H0) := Lib.hid ⟨by rw [hV2]; exact (((Chg.refl _ _).alloc _).alloc _).alloc _, hH.symm⟩
              have HBL2 : Hid (∀ q, bsF L q ≤ 600000) := Lib.hid fun q => bsF_le HSM.out (by rw [HN.out]; exact H16.out.2) q
              have HK8 : Hid (∀ V, Chg [] V1 V → ∀ q, q < 3 → V.cell? ⟨T8, q, none⟩ = some (.int .u32 (bsF L q : Int))) := Lib.hid fun V hc q hq => by
                rw [row_cell ((hc.row (row_lt HV8.out) (by simp)).trans HV8.out), tRow_get hq]
              have HKA : Hid (∀ V, Chg [] V1 V → ∀ i q, i < n → q < 3 → V.cell? ⟨A, i * 3 + q, none⟩ = some (.int .u32 (sumO L (q : Int) i : Int))) := Lib.hid fun V hc i q hi hq => by
                rw [row_cell ((hc.row (row_lt HVA.out) (by simp)).trans HVA.out), rowF_get (by omega), show (i * 3 + q) / 3 = i by omega, show (i * 3 + q) % 3 = q by omega]
              have HSV : Hid (∀ V, Chg [] V1 V → ObsAt V b o L) := Lib.hid fun V hc => HS.out _ ((HC0.out.1.trans HCV.out).trans hc)
              clear hH hV2 hV2' hF hm hmm
              go_wp2_with fail
              go_loopw [81] (fun i wr => ∃ (j : Nat) (vs vr : Value), j ≤ n ∧ i = .int .i64 (j : Int) ∧ Lf wr H0 F m (defsP L j) [] vs vr ∧ NumAt wr m (defsP L j) ∧ nodupB (defsP L j) = true ∧ (defsP L j).length ≤ 64 * j ∧ Chg [] V1 wr) (fun i _ => n - (intOf i).toNat)
              case atStart => exact ⟨0, _, _, Nat.zero_le _, rfl, by rw [defsP_zero]; exact HLF.out, by rw [defsP_zero]; exact HNU.out, by rw [defsP_zero]; rfl, by rw [defsP_zero]; exact Nat.zero_le _, HC2.out.1⟩
              case round =>
                obtain ⟨j, vs0, vr0, hj, rfl, hlf, hnu, hnd, hln, hch⟩ := hrel
                have HJ := Lib.hid hj
                have HLF1 := Lib.hid hlf
                have HNU1 := Lib.hid hnu
                have HND1 := Lib.hid hnd
                have HLN1 := Lib.hid hln
                have HCH1 := Lib.hid hch
                clear hj hlf hnu hnd hln hch
                by_cases hjn : j < n
                · have HJN := Lib.hid hjn
                  have dJ : (j : Int) < (n : Int) := by omega
                  have HWJ := Lib.hid (wrapK j (by have := H16.out; omega))
                  obtain ⟨s, hs⟩ : ∃ s, L[j]? = some s := ⟨_, List.getElem?_eq_getElem (by rw [HN.out]; exact hjn)⟩
                  have HS2 := Lib.hid hs
                  have HRS := Lib.hid (HSR.out s (List.mem_of_getElem? hs))
                  have HSC := Lib.hid (HSV.out _ HCH1.out j s hs).1
                  have HOK : Hid (∀ V, Chg [] V1 V → ObOk V s) := Lib.hid fun V hV => (HSV.out V hV j s hs).2
                  have HFN : Hid (s.F.length = s.nf) := Lib.hid (HOK.out _ HCH1.out).Fn
                  have HFL2 : Hid (s.nf ≤ 64 ∧ s.F.all (dfB s) = true) := Lib.hid (by
                    have h := HRS.out
                    unfold rightB at h
                    rw [Bool.and_eq_true, Bool.and_eq_true] at h
                    have h2 := h.1.1
                    unfold baseB at h2
                    rw [decide_eq_true_eq] at h2
                    exact ⟨by omega, h.1.2⟩)
                  obtain ⟨pf, hpe⟩ : ∃ p, p = s.pf := ⟨_, rfl⟩
                  have HPF : Hid (0 < s.nf → pf = some ⟨s.bf, s.of_, none⟩) := Lib.hid (by rw [hpe]; exact (HOK.out _ HCH1.out).Fp)
                  obtain ⟨Z, hZ⟩ : ∃ Z, Z = wr.alloc (.cells (obA s) 53) := ⟨_, rfl⟩
                  obtain ⟨B, hB⟩ : ∃ b, b = wr.heap.size := ⟨_, rfl⟩
                  have hc2 : Chg [] wr Z := by rw [hZ]; exact (Chg.refl _ _).alloc _
                  have hr2 : Z.row? B = some (obA s) := by rw [hZ]; exact row_alloc_at _ _ _ _ hB
                  have c3 : Z.cell? ⟨B, 3, none⟩ = some (.slice pf s.nf s.cf) := by rw [row_cell hr2, hpe]; rfl
                  have HLF2 := Lib.hid (HLF1.out.keep hc2)
                  have HNU2 := Lib.hid (HNU1.out.keep hc2 (by simp))
                  have HCZ2 := Lib.hid (HCH1.out.trans hc2)
                  have HZ2 := Lib.hid hZ
                  have HB2' := Lib.hid hB
                  clear hs hZ hB hc2 hjn hr2 hpe
                  go_upto_region 19 with (first | (refine wpList_load_part a53 (obA s).toList rfl _ rfl rfl rfl HSC.out ?_) | (refine wpList_store_new a53 _ _ rfl rfl rfl rfl rfl rfl rfl rfl ?_))
                  rw [← HZ2.out, ← HB2'.out]
                  clear HZ2 HB2' dJ
                  go_wp2_with fail
                  clear c3
                  go_loopw [89] (fun i wr => ∃ (k : Nat) (vs vr : Value), k ≤ s.nf ∧ i = .int .i64 (k : Int) ∧ Lf wr H0 F m (defsP L j ++ defsI L j s k) [] vs vr ∧ NumAt wr m (defsP L j ++ defsI L j s k) ∧ nodupB (defsP L j ++ defsI L j s k) = true ∧ (defsP L j ++ defsI L j s k).length ≤ 64 * j + k ∧ Chg [] V1 wr) (fun i _ => s.nf - (intOf i).toNat)
                  case atStart => exact ⟨0, _, _, Nat.zero_le _, rfl, by rw [defsI_zero, List.append_nil]; exact HLF2.out, by rw [defsI_zero, List.append_nil]; exact HNU2.out, by rw [defsI_zero, List.append_nil]; exact HND1.out, by rw [defsI_zero, List.append_nil]; exact HLN1.out, HCZ2.out⟩
                  case round =>
                    obtain ⟨k, vs, vr, hk, rfl, hlf, hnu, hnd, hln, hch⟩ := hrel
                    have HK := Lib.hid hk
                    have HLF3 := Lib.hid hlf
                    have HNU3 := Lib.hid hnu
                    have HND3 := Lib.hid hnd
                    have HLN3 := Lib.hid hln
                    have HCH3 := Lib.hid hch
                    clear hk hlf hnu hnd hln hch
                    by_cases hkn : k < s.nf
                    · skip
                      have HKN := Lib.hid hkn
                      have dK : (k : Int) < (s.nf : Int) := by omega
                      have HWK := Lib.hid (wrapK k (by have := HFL2.out.1; omega))
                      obtain ⟨d, hd⟩ : ∃ d, s.F[k]? = some d := ⟨_, List.getElem?_eq_getElem (by rw [HFN.out]; exact hkn)⟩
                      have HD := Lib.hid hd
                      have HDB : Hid (d.name.size ≤ 32 ∧ 0 ≤ d.sec ∧ d.sec ≤ 2 ∧ d.at_ ≤ sizeO s d.sec) := Lib.hid (by
                        have h := List.all_eq_true.1 HFL2.out.2 d (List.mem_of_getElem? hd)
                        unfold dfB at h
                        rw [decide_eq_true_eq] at h
                        exact h.2)
                      obtain ⟨q, hq⟩ : ∃ q : Nat, d.sec = (q : Int) := ⟨d.sec.toNat, by have := HDB.out; omega⟩
                      have HQ := Lib.hid hq
                      have HQ3 : Hid (q < 3) := Lib.hid (by have := HDB.out; omega)
                      have HFC := Lib.hid ((HOK.out _ HCH3.out).Fa k d hd).1
                      obtain rfl := HPF.out (by omega)
                      obtain ⟨Z3, hZ⟩ : ∃ Z, Z = wr.alloc (.cells (DfC d).toArray 55) := ⟨_, rfl⟩
                      obtain ⟨Bd, hB⟩ : ∃ b, b = wr.heap.size := ⟨_, rfl⟩
                      have hc2 : Chg [] wr Z3 := by rw [hZ]; exact (Chg.refl _ _).alloc _
                      have hr2 : Z3.row? Bd = some (DfC d).toArray := by rw [hZ]; exact row_alloc_at _ _ _ _ hB
                      have HRD := Lib.hid hr2
                      have HLF4 := Lib.hid (HLF3.out.keep hc2)
                      have HNU4 := Lib.hid (HNU3.out.keep hc2 (by simp))
                      have HCZ4 := Lib.hid (HCH3.out.trans hc2)
                      have n0 : Z3.cell? ⟨Bd, 0, none⟩ = some (.string d.name) := by rw [row_cell hr2]; rfl
                      have HBM : Hid (Bd ≠ m ∧ Bd ≠ F) := Lib.hid ⟨by have := HLF3.out.mlt; omega, by have := row_lt HLF3.out.row; omega⟩
                      have HZ2 := Lib.hid hZ
                      have HB2' := Lib.hid hB
                      obtain ⟨P, hP⟩ : ∃ P, P = defsP L j ++ defsI L j s k := ⟨_, rfl⟩
                      rw [← hP] at HLF4 HNU4 HND3 HLN3
                      obtain ⟨pv, cv, rfl, -⟩ := own_form HLF4.out.os
                      have HPP := Lib.hid hP
                      clear hd hZ hB hc2 hr2 hkn hq hP
                      go_upto_region 22 with (first | (refine wpList_load_part a55 (DfC d) rfl _ rfl rfl rfl HFC.out ?_) | (refine wpList_store_new a55 _ _ rfl rfl rfl rfl rfl rfl rfl rfl ?_))
                      rw [← HZ2.out, ← HB2'.out]
                      clear HZ2 HB2' dK HLF3 HNU3
                      obtain ⟨D, hD1, hD2⟩ := HNU4.out
                      have HOW := Lib.hid hD1
                      have HMS := Lib.hid hD2
                      have HKEY := Lib.hid (key9 d.name HDB.out.1)
                      clear hD1 hD2
                      go_upto_region 23 with (at_lookup; refine wpList_lookup_own_ok_int (H := Unit) _ rfl _ _ 75 rfl 9 3 .i64 kd9 Try.underlying75 Try.underlying3 (ze3 _) m P.length D rfl HOW.out _ _ rfl HKEY.out ?_; intro c0 hat hwc)
                      rw [HMS.out.has_ d.name]
                      clear hat hwc n0
                      by_cases hz : numP P d.name = 0
                      · as_aux_lemma =>
                          have HZ0 := Lib.hid hz
                          rw [show decide (numP P d.name ≠ 0) = false by rw [decide_eq_false_iff_not]; exact fun h => h hz]
                          clear hz
                          have n0 : Z3.cell? ⟨Bd, 0, none⟩ = some (.string d.name) := by rw [row_cell HRD.out]; rfl
                          have n3 : Z3.cell? ⟨F, 3, none⟩ = some (.slice pv (P.length + 1) cv) := by rw [row_cell HLF4.out.row]; rfl
                          have hw8 : (Lit.int .i64 ((P.length + 1 : Nat) : Int)).wf = true := by have := HLN3.out; have := H16.out; have := HJN.out; have := HKN.out; have := HFL2.out.1; simp [Lit.wf, IntKind.min, IntKind.max, IntKind.signed, IntKind.bits]; omega
                          have HPE := Lib.hid (plainElem_int (H := Unit) Try.underlying3 hw8)
                          clear hw8
                          go_upto_region 26 with (at_mapUpdate; refine wpList_mapUpdate_own (H := Unit) _ rfl _ _ _ 75 rfl 9 3 kd9 Try.underlying75 _ m P.length D rfl HOW.out (by have := HLN3.out; have := H16.out; have := HJN.out; have := HKN.out; have := HFL2.out.1; unfold maxLen; omega) _ _ _ rfl rfl HKEY.out _ [] HPE.out ?_; intro w1 hown1 hgrow1)
                          obtain ⟨x1, hx1⟩ : ∃ x, x = bsF L q + sumO L (q : Int) j := ⟨_, rfl⟩
                          obtain ⟨x, hx⟩ : ∃ x, x = x1 + d.at_ := ⟨_, rfl⟩
                          have HXE : Hid (x = bsF L d.sec.toNat + sumO L d.sec j + d.at_) := Lib.hid (by rw [hx, hx1, HQ.out]; rfl)
                          have HDL : Hid (d.at_ ≤ 16384) := Lib.hid (by
                            have h1 := HDB.out.2.2.2
                            have h2 : sizeO s d.sec ≤ 16384 := by
                              obtain ⟨a, b, c⟩ := HSZ.out s (List.mem_of_getElem? HS2.out)
                              unfold sizeO
                              split; exact a; split; exact b; split; exact c; omega
                            omega)
                          have HG1 : Hid (Chg [m] Z3 w1) := Lib.hid (grown_chg hgrow1)
                          have HLF5 := Lib.hid (HLF4.out.keepM HG1.out)
                          have HNU5 : Hid (NumAt w1 m (P ++ [(d.name, x)])) := Lib.hid ⟨_, by rw [List.length_append]; exact hown1, HMS.out.put d.name x HZ0.out⟩
                          have HC5 : Hid (Chg [] V1 w1) := Lib.hid (chg_newer HCZ4.out HG1.out (by intro g hg; rw [List.mem_singleton] at hg; subst hg; have := HLF4.out.hm; have := HC2.out.2; omega))
                          have HRD5 : Hid (w1.row? Bd = some (DfC d).toArray) := Lib.hid ((HG1.out.row (row_lt HRD.out) (by simpa using HBM.out.1)).trans HRD.out)
                          have s0 : Hid (w1.cell? ⟨F, 3, none⟩ = some (.slice pv (P.length + 1) cv)) := Lib.hid (by rw [row_cell HLF5.out.row]; rfl)
                          have s1 : Hid (w1.cell? ⟨Bd, 1, none⟩ = some (.int .i64 (q : Int))) := Lib.hid (by rw [row_cell HRD5.out, ← HQ.out]; rfl)
                          have s2 : Hid (w1.cell? ⟨Bd, 2, none⟩ = some (.int .u32 (d.at_ : Int))) := Lib.hid (by rw [row_cell HRD5.out]; rfl)
                          have s3 : Hid (w1.cell? ⟨T8, q, none⟩ = some (.int .u32 (bsF L q : Int))) := Lib.hid (HK8.out _ HC5.out q HQ3.out)
                          have s4 : Hid (w1.cell? ⟨A, j * 3 + q, none⟩ = some (.int .u32 (sumO L (q : Int) j : Int))) := Lib.hid (HKA.out _ HC5.out j q HJN.out HQ3.out)
                          have wx1 : IntKind.u32.wrap ((bsF L q : Int) + (sumO L (q : Int) j : Int)) = (x1 : Int) := by rw [hx1]; exact u32add (by have := HBL2.out q; have := HSM.out (q : Int) j (by have := H16.out; have := HJN.out; omega); omega)
                          have wx2 : IntKind.u32.wrap ((x1 : Int) + (d.at_ : Int)) = (x : Int) := by rw [hx]; exact u32add (by have := HBL2.out q; have := HSM.out (q : Int) j (by have := H16.out; have := HJN.out; omega); have := HDL.out; omega)
                          have iq : (q : Int) < 3 := by have := HQ3.out; omega
                          have iq2 : q < 3 := HQ3.out
                          have ij : (j : Int) < (n : Int) := by have := HJN.out; omega
                          have ij2 : j < n := HJN.out
                          clear hx1 hx hown1 hgrow1 n0 n3
                          refine wp_region_C (fun w' => w'.cell? ⟨F, 3, none⟩ = some (.slice pv (P.length + 1) cv) ∧ w'.cell? ⟨Bd, 1, none⟩ = some (.int .i64 (q : Int)) ∧ w'.cell? ⟨Bd, 2, none⟩ = some (.int .u32 (d.at_ : Int)) ∧ w'.cell? ⟨T8, q, none⟩ = some (.int .u32 (bsF L q : Int)) ∧ w'.cell? ⟨A, j * 3 + q, none⟩ = some (.int .u32 (sumO L (q : Int) j : Int))) [(0, 0), (1, 1), (2, 0), (3, 1), (4, 0), (5, 1), (6, 0), (7, 0), (8, 0), (9, 1), (10, 0), (11, 0), (12, 1), (13, 0), (14, 0), (15, 1), (16, 0), (17, 2), (18, 3), (19, 0), (20, 3)] rfl (by kernel_rfl) ?hSG ?hTG
                          case hSG => exact ⟨s0.out, s1.out, s2.out, s3.out, s4.out⟩
                          refine wpT_pureD (v := ?_) (some 108) rfl rfl (by rfl) (fun w' => ?_) ?_
                          rotate_left
                          · (go_simp; try with_reducible rfl)
                          try simp only [Act.put, List.setIfInBounds_toArray, List.set_cons_zero, List.set_cons_succ]
                          refine wpT_readD (v := ?_) (some 109) rfl rfl (by rfl) (fun w' hw => ?_) ?_
                          rotate_left
                          · (obtain ⟨q0, q1, q2, q3, q4⟩ := hw; go_simp; try with_reducible rfl)
                          try simp only [Act.put, List.setIfInBounds_toArray, List.set_cons_zero, List.set_cons_succ]
                          refine wpT_pureD (v := ?_) (some 110) rfl rfl (by rfl) (fun w' => ?_) ?_
                          rotate_left
                          · (go_simp; try with_reducible rfl)
                          try simp only [Act.put, List.setIfInBounds_toArray, List.set_cons_zero, List.set_cons_succ]
                          refine wpT_readD (v := ?_) (some 111) rfl rfl (by rfl) (fun w' hw => ?_) ?_
                          rotate_left
                          · (obtain ⟨q0, q1, q2, q3, q4⟩ := hw; go_simp; try with_reducible rfl)
                          try simp only [Act.put, List.setIfInBounds_toArray, List.set_cons_zero, List.set_cons_succ]
                          refine wpT_pureD (v := ?_) (some 112) rfl rfl (by rfl) (fun w' => ?_) ?_
                          rotate_left
                          · (go_simp; try with_reducible rfl)
                          try simp only [Act.put, List.setIfInBounds_toArray, List.set_cons_zero, List.set_cons_succ]
                          refine wpT_readD (v := ?_) (some 113) rfl rfl (by rfl) (fun w' hw => ?_) ?_
                          rotate_left
                          · (obtain ⟨q0, q1, q2, q3, q4⟩ := hw; go_simp; try with_reducible rfl)
                          try simp only [Act.put, List.setIfInBounds_toArray, List.set_cons_zero, List.set_cons_succ]
                          refine wpT_pureD (v := ?_) (some 114) rfl rfl (by rfl) (fun w' => ?_) ?_
                          rotate_left
                          · (go_simp; try with_reducible rfl)
                          try simp only [Act.put, List.setIfInBounds_toArray, List.set_cons_zero, List.set_cons_succ]
                          refine wpT_pureD (v := ?_) (some 115) rfl rfl (by rfl) (fun w' => ?_) ?_
                          rotate_left
                          · (go_simp; try with_reducible rfl)
                          try simp only [Act.put, List.setIfInBounds_toArray, List.set_cons_zero, List.set_cons_succ]
                          refine wpT_pureD (v := ?_) (some 116) rfl rfl (by rfl) (fun w' => ?_) ?_
                          rotate_left
                          · (go_simp; try with_reducible rfl)
                          try simp only [Act.put, List.setIfInBounds_toArray, List.set_cons_zero, List.set_cons_succ]
                          refine wpT_readD (v := ?_) (some 117) rfl rfl (by rfl) (fun w' hw => ?_) ?_
                          rotate_left
                          · (obtain ⟨q0, q1, q2, q3, q4⟩ := hw; go_simp; try with_reducible rfl)
                          try simp only [Act.put, List.setIfInBounds_toArray, List.set_cons_zero, List.set_cons_succ]
                          refine wpT_pureD (v := ?_) (some 118) rfl rfl (by rfl) (fun w' => ?_) ?_
                          rotate_left
                          · (go_simp; try with_reducible rfl)
                          try simp only [Act.put, List.setIfInBounds_toArray, List.set_cons_zero, List.set_cons_succ]
                          refine wpT_pureD (v := ?_) (some 119) rfl rfl (by rfl) (fun w' => ?_) ?_
                          rotate_left
                          · (go_simp; try with_reducible rfl)
                          try simp only [Act.put, List.setIfInBounds_toArray, List.set_cons_zero, List.set_cons_succ]
                          refine wpT_readD (v := ?_) (some 120) rfl rfl (by rfl) (fun w' hw => ?_) ?_
                          rotate_left
                          · (obtain ⟨q0, q1, q2, q3, q4⟩ := hw; go_simp; try with_reducible rfl)
                          try simp only [Act.put, List.setIfInBounds_toArray, List.set_cons_zero, List.set_cons_succ]
                          refine wpT_pureD (v := ?_) (some 121) rfl rfl (by rfl) (fun w' => ?_) ?_
                          rotate_left
                          · (go_simp; try with_reducible rfl)
                          try simp only [Act.put, List.setIfInBounds_toArray, List.set_cons_zero, List.set_cons_succ]
                          refine wpT_pureD (v := ?_) (some 122) rfl rfl (by rfl) (fun w' => ?_) ?_
                          rotate_left
                          · (go_simp; try with_reducible rfl)
                          try simp only [Act.put, List.setIfInBounds_toArray, List.set_cons_zero, List.set_cons_succ]
                          refine wpT_readD (v := ?_) (some 123) rfl rfl (by rfl) (fun w' hw => ?_) ?_
                          rotate_left
                          · (obtain ⟨q0, q1, q2, q3, q4⟩ := hw; go_simp; try with_reducible rfl)
                          try simp only [Act.put, List.setIfInBounds_toArray, List.set_cons_zero, List.set_cons_succ]
                          refine wpT_pureD (v := ?_) (some 124) rfl rfl (by rfl) (fun w' => ?_) ?_
                          rotate_left
                          · (go_simp; try with_reducible rfl)
                          try simp only [Act.put, List.setIfInBounds_toArray, List.set_cons_zero, List.set_cons_succ]
                          refine wpT_eff rfl (by rfl) (fun K hK => ?_)
                          clear wx1 wx2 iq iq2 ij ij2
                          go_wp2_with fail
                          obtain ⟨w2, hw2⟩ : ∃ w2, w2 = (w1.alloc (.cells #[.int .u32 (x : Int)] 25)).drew := ⟨_, rfl⟩
                          obtain ⟨g, hg⟩ : ∃ g, g = w1.heap.size := ⟨_, rfl⟩
                          rw [← hw2, ← hg]
                          have hcc : Chg [] w1 w2 := by rw [hw2]; exact ((Chg.refl _ _).alloc _).drew
                          have HLF6 := Lib.hid (HLF5.out.keep hcc)
                          have HG2 : Hid (w2.row? g = some #[.int .u32 (x : Int)]) := Lib.hid (by rw [hw2, row_drew]; exact row_alloc_at _ _ _ _ hg)
                          have HNU6 := Lib.hid (HNU5.out.keep hcc (by simp))
                          have HC6' : Hid (Chg [] V1 w2) := Lib.hid (HC5.out.trans hcc)
                          refine hK _ _ ⟨keepc s0.out hcc (by simp), keepc s1.out hcc (by simp), keepc s2.out hcc (by simp), keepc s3.out hcc (by simp), keepc s4.out hcc (by simp)⟩ ?_
                          clear hw2 hg hcc hK K
                          try simp only [Act.put, List.setIfInBounds_toArray, List.set_cons_zero, List.set_cons_succ]
                          refine wpT_brk rfl (by rfl) (fun K hK => ?_)
                          refine (app_srcL rfl _ _ 28 25 .u32 4 rfl Try.underlying28 info25 (by decide) H0 (.slice pv (P.length + 1) cv) (P.length + 1) (0 :: P.map fun p : ByteArray × Nat => p.2) rfl HLF6.out.os (some ⟨g, 0, none⟩) 1 1 [x] rfl rfl (fun h => by cases h) (fun ad h i y hy => by
                            obtain rfl := Option.some.inj h
                            rcases i with _ | i
                            · obtain rfl := Option.some.inj hy
                              rw [addr_at, row_cell HG2.out]; rfl
                            · simp at hy) (by have := HLN3.out; have := H16.out; have := HJN.out; have := HKN.out; have := HFL2.out.1; omega) (by have := HC6'.out.size; have := HC2.out.2; omega) ?_)
                          intro v3 w3 hx1 hx2 hx3
                          obtain ⟨p4, c4, rfl, -⟩ := own_form hx1
                          have HL7 := Lib.hid (HLF6.out.sym (x := x) (t := d.name) (by simpa [symC] using hx1) hx2 hx3)
                          have HNU7 : Hid (NumAt (w3.setCell ⟨F, 3, none⟩ (.slice p4 (P.length + 1 + 1) c4)) m (P ++ [(d.name, x)])) := Lib.hid (HNU6.out.keep HL7.out.2 (by
                            rw [List.mem_cons, not_or, Option.mem_toList]
                            exact ⟨fun e => HLF6.out.ne e.symm, fun e => (HLF6.out.ns m e).2 rfl⟩))
                          have HC7 : Hid (Chg [] V1 (w3.setCell ⟨F, 3, none⟩ (.slice p4 (P.length + 1 + 1) c4))) := Lib.hid (chg_newer HC6'.out HL7.out.2 (by
                            intro g hg
                            rw [List.mem_cons, Option.mem_toList] at hg
                            rcases hg with e | e
                            · have := HLF6.out.hF; have := HC2.out.2; omega
                            · have := (HLF6.out.os.lt g e).1; have := HC2.out.2; omega))
                          have hr3 := ((grown_chg hx2).row (row_lt HLF6.out.row) (by rw [Option.mem_toList]; intro e; exact (HLF6.out.ns F e).1 rfl)).trans HLF6.out.row
                          have fc : w3.cell? ⟨F, 3, none⟩ = some (.slice pv (P.length + 1) cv) := by rw [row_cell hr3]; rfl
                          have ff : w3.frozen? ⟨F, 3, none⟩ = false := row_free hr3 _
                          clear hx1 hx2 hx3 hr3
                          go_wp2_with fail
                          refine wpT_pureD (v := ?_) (some 127) rfl rfl (by rfl) (fun w' => ?_) ?_
                          rotate_left
                          · (go_simp; try with_reducible rfl)
                          try simp only [Act.put, List.setIfInBounds_toArray]
                          refine wpT_brk rfl (by rfl) (fun K hK => ?_)
                          go_wp2_with fail
                          refine wpT_end ?_
                          obtain ⟨w4, hw4⟩ : ∃ w4, w4 = w3.setCell ⟨F, 3, none⟩ (.slice p4 (P.length + 1 + 1) c4) := ⟨_, rfl⟩
                          rw [← hw4] at HL7 HNU7 HC7
                          rw [← hw4]
                          clear hw4 fc ff
                          go_wp2_with fail
                          case roundEnd =>
                            refine ⟨⟨k + 1, .slice p4 (P.length + 1 + 1) c4, vr, HKN.out, by rw [HWK.out], ?_, ?_, ?_, ?_, HC7.out⟩, by rw [HWK.out]; simp only [intOf, Int.toNat_natCast]; have := HKN.out; omega⟩
                            · rw [defsI_succ HD.out, ← List.append_assoc, ← HPP.out, ← HXE.out]; exact HL7.out.1
                            · rw [defsI_succ HD.out, ← List.append_assoc, ← HPP.out, ← HXE.out]; exact HNU7.out
                            · rw [defsI_succ HD.out, ← List.append_assoc, ← HPP.out, ← HXE.out]; exact once HND3.out HZ0.out
                            · rw [defsI_succ HD.out, ← List.append_assoc, ← HPP.out, List.length_append]; have := HLN3.out; simp; omega
                      · as_aux_lemma =>
                          have HZ0 := Lib.hid hz
                          rw [show decide (numP P d.name ≠ 0) = true by rw [decide_eq_true_eq]; exact hz]
                          clear hz
                          have r2 := HR2.out Z3 (HCV.out.trans HCZ4.out)
                          go_wp2_with (refine wpList_store_row a30 _ _ rfl rfl rfl rfl rfl r2 rfl rfl rfl ?_)
                          refine bodyPost_ret (ret_cell2 rfl a30 rfl (by rw [row_setRow, if_pos rfl, r2]; rfl) rfl rfl) rfl ?_
                          exact post_bad (k := 11) (by decide) (by unfold errL; rw [HE1.out, HE2.out, HE3.out, show e4 L = true from twice HS2.out HD.out (by rw [← HPP.out]; exact HZ0.out)]; rfl) ((HC0.out.1.trans (HCV.out.trans HCZ4.out)).setRow (.inr HC0.out.2.1) _)
                    · have dK : ¬ (k : Int) < (s.nf : Int) := by omega
                      obtain rfl : k = s.nf := by have := HK.out; omega
                      clear hkn
                      go_wp2_with fail
                      case roundEnd =>
                        have e : defsP L (j + 1) = defsP L j ++ defsI L j s s.nf := by rw [defsP_succ HS2.out, HFN.out]
                        refine ⟨⟨j + 1, _, _, HJN.out, by rw [HWJ.out], by rw [e]; exact HLF3.out, by rw [e]; exact HNU3.out, by rw [e]; exact HND3.out, by rw [e]; have := HLN3.out; have := HFL2.out.1; omega, HCH3.out⟩, by rw [HWJ.out]; simp only [intOf, Int.toNat_natCast]; have := HJN.out; omega⟩
                · obtain rfl : j = n := by have := HJ.out; omega
                  have dJ : ¬ (j : Int) < (j : Int) := by omega
                  clear hjn
                  have eP : defsP L j = defsL L := by unfold defsL; rw [HN.out]
                  obtain ⟨PL, hPL⟩ : ∃ P, P = defsL L := ⟨_, rfl⟩
                  rw [eP, ← hPL] at HLF1 HNU1 HND1 HLN1
                  have HPL := Lib.hid hPL
                  have HE4 : Hid (e4 L = false) := Lib.hid (by unfold e4; rw [← HPL.out, HND1.out]; rfl)
                  clear eP hPL
                  go_upto_block 6 with (fail)
                  clear dJ
                  go_wp2_with fail
                  go_loopw [132] (fun i wr => ∃ (a : Nat) (vr : Value), a ≤ j ∧ i = .int .i64 (a : Int) ∧ Lf wr H0 F m PL (refsP L PL a) vs0 vr ∧ NumAt wr m PL ∧ (∀ (i : Nat) (s : Ob), i < a → L[i]? = some s → s.R.all (fun r => decide (numP PL r.name ≠ 0)) = true) ∧ (refsP L PL a).length ≤ 64 * a ∧ Chg [] V1 wr) (fun i _ => j - (intOf i).toNat)
                  case atStart => exact ⟨0, _, Nat.zero_le _, rfl, by rw [refsP_zero]; exact HLF1.out, HNU1.out, fun i s hi => by omega, by rw [refsP_zero]; exact Nat.zero_le _, HCH1.out⟩
                  case round =>
                    obtain ⟨a, vr1, ha, rfl, hlf, hnu, hnm, hln, hch⟩ := hrel
                    have HJ6 := Lib.hid ha
                    have HLF2 := Lib.hid hlf
                    have HNU2 := Lib.hid hnu
                    have HNM2 := Lib.hid hnm
                    have HLN2 := Lib.hid hln
                    have HCH2 := Lib.hid hch
                    clear ha hlf hnu hnm hln hch
                    by_cases hjn : a < j
                    · skip
                      as_aux_lemma =>
                        have HJN := Lib.hid hjn
                        have dJ : (a : Int) < (j : Int) := by omega
                        have HWJ := Lib.hid (wrapK a (by have := H16.out; omega))
                        obtain ⟨s, hs⟩ : ∃ s, L[a]? = some s := ⟨_, List.getElem?_eq_getElem (by rw [HN.out]; exact hjn)⟩
                        have HS2 := Lib.hid hs
                        have HRS := Lib.hid (HSR.out s (List.mem_of_getElem? hs))
                        have HSC := Lib.hid (HSV.out _ HCH2.out a s hs).1
                        have HOK : Hid (∀ V, Chg [] V1 V → ObOk V s) := Lib.hid fun V hV => (HSV.out V hV a s hs).2
                        have HFN : Hid (s.R.length = s.nr) := Lib.hid (HOK.out _ HCH2.out).Rn
                        have HFL2 : Hid (s.nr ≤ 64 ∧ s.R.all (rfB s) = true) := Lib.hid (by
                          have h := HRS.out
                          unfold rightB at h
                          rw [Bool.and_eq_true, Bool.and_eq_true] at h
                          have h2 := h.1.1
                          unfold baseB at h2
                          rw [decide_eq_true_eq] at h2
                          exact ⟨by omega, h.2⟩)
                        obtain ⟨pf, hpe⟩ : ∃ p, p = s.pr := ⟨_, rfl⟩
                        have HPF : Hid (0 < s.nr → pf = some ⟨s.br, s.or_, none⟩) := Lib.hid (by rw [hpe]; exact (HOK.out _ HCH2.out).Rp)
                        obtain ⟨Z, hZ⟩ : ∃ Z, Z = wr.alloc (.cells (obA s) 53) := ⟨_, rfl⟩
                        obtain ⟨B, hB⟩ : ∃ b, b = wr.heap.size := ⟨_, rfl⟩
                        have hc2 : Chg [] wr Z := by rw [hZ]; exact (Chg.refl _ _).alloc _
                        have hr2 : Z.row? B = some (obA s) := by rw [hZ]; exact row_alloc_at _ _ _ _ hB
                        have c3 : Z.cell? ⟨B, 4, none⟩ = some (.slice pf s.nr s.cr) := by rw [row_cell hr2, hpe]; rfl
                        have HLF3 := Lib.hid (HLF2.out.keep hc2)
                        have HNU3 := Lib.hid (HNU2.out.keep hc2 (by simp))
                        have HCZ3 := Lib.hid (HCH2.out.trans hc2)
                        have HZ2 := Lib.hid hZ
                        have HB2' := Lib.hid hB
                        clear hs hZ hB hc2 hjn hr2 hpe
                        go_upto_region 32 with (first | (refine wpList_load_part a53 (obA s).toList rfl _ rfl rfl rfl HSC.out ?_) | (refine wpList_store_new a53 _ _ rfl rfl rfl rfl rfl rfl rfl rfl ?_))
                        rw [← HZ2.out, ← HB2'.out]
                        clear HZ2 HB2' dJ
                        go_wp2_with fail
                        clear c3
                        go_loopw [140] (fun i wr => ∃ (k : Nat) (vr : Value), k ≤ s.nr ∧ i = .int .i64 (k : Int) ∧ Lf wr H0 F m PL (refsP L PL a ++ refsI L PL a s k) vs0 vr ∧ NumAt wr m PL ∧ (∀ (i : Nat) (r : Rf), i < k → s.R[i]? = some r → numP PL r.name ≠ 0) ∧ (refsP L PL a ++ refsI L PL a s k).length ≤ 64 * a + k ∧ Chg [] V1 wr) (fun i _ => s.nr - (intOf i).toNat)
                        case atStart => exact ⟨0, _, Nat.zero_le _, rfl, by rw [refsI_zero, List.append_nil]; exact HLF3.out, HNU3.out, fun i r hi => by omega, by rw [refsI_zero, List.append_nil]; exact HLN2.out, HCZ3.out⟩
                        case round =>
                          obtain ⟨k, vr, hk, rfl, hlf, hnu, hnm, hln, hch⟩ := hrel
                          have HK := Lib.hid hk
                          have HLF4 := Lib.hid hlf
                          have HNU4 := Lib.hid hnu
                          have HNM4 := Lib.hid hnm
                          have HLN4 := Lib.hid hln
                          have HCH4 := Lib.hid hch
                          clear hk hlf hnu hnm hln hch
                          by_cases hkn : k < s.nr
                          · have HKN := Lib.hid hkn
                            have dK : (k : Int) < (s.nr : Int) := by omega
                            have HWK := Lib.hid (wrapK k (by have := HFL2.out.1; omega))
                            obtain ⟨d, hd⟩ : ∃ d, s.R[k]? = some d := ⟨_, List.getElem?_eq_getElem (by rw [HFN.out]; exact hkn)⟩
                            have HD := Lib.hid hd
                            have HDB : Hid (0 ≤ d.sec ∧ d.sec ≤ 1 ∧ d.at_ + 4 ≤ sizeO s d.sec) := Lib.hid (by
                              have h := List.all_eq_true.1 HFL2.out.2 d (List.mem_of_getElem? hd)
                              unfold rfB at h
                              rw [decide_eq_true_eq] at h
                              exact ⟨h.1, h.2.1, h.2.2.2.2.2⟩)
                            have HNS : Hid (d.name.size ≤ maxLen) := Lib.hid (HRN.out s (List.mem_of_getElem? HS2.out) d (List.mem_of_getElem? hd))
                            obtain ⟨q, hq⟩ : ∃ q : Nat, d.sec = (q : Int) := ⟨d.sec.toNat, by have := HDB.out; omega⟩
                            have HQ := Lib.hid hq
                            have HQ3 : Hid (q < 3) := Lib.hid (by have := HDB.out; omega)
                            have HFC := Lib.hid ((HOK.out _ HCH4.out).Ra k d hd).1
                            obtain rfl := HPF.out (by omega)
                            obtain ⟨Z3, hZ⟩ : ∃ Z, Z = wr.alloc (.cells (RfC d).toArray 57) := ⟨_, rfl⟩
                            obtain ⟨Bd, hB⟩ : ∃ b, b = wr.heap.size := ⟨_, rfl⟩
                            have hc2 : Chg [] wr Z3 := by rw [hZ]; exact (Chg.refl _ _).alloc _
                            have hr2 : Z3.row? Bd = some (RfC d).toArray := by rw [hZ]; exact row_alloc_at _ _ _ _ hB
                            have HRD := Lib.hid hr2
                            obtain ⟨Rs, hRs⟩ : ∃ R, R = refsP L PL a ++ refsI L PL a s k := ⟨_, rfl⟩
                            rw [← hRs] at HLF4 HLN4
                            have HLF5 := Lib.hid (HLF4.out.keep hc2)
                            have HNU5 := Lib.hid (HNU4.out.keep hc2 (by simp))
                            have HCZ4 := Lib.hid (HCH4.out.trans hc2)
                            have n0 : Z3.cell? ⟨Bd, 3, none⟩ = some (.string d.name) := by rw [row_cell hr2]; rfl
                            have HBM : Hid (Bd ≠ m ∧ Bd ≠ F) := Lib.hid ⟨by have := HLF4.out.mlt; omega, by have := row_lt HLF4.out.row; omega⟩
                            have HZ2 := Lib.hid hZ
                            have HB2' := Lib.hid hB
                            have HRs := Lib.hid hRs
                            obtain ⟨pv, cv, rfl, -⟩ := own_form HLF5.out.or_
                            clear hd hZ hB hc2 hr2 hkn hq hRs
                            go_upto_region 35 with (first | (refine wpList_load_part a57 (RfC d) rfl _ rfl rfl rfl HFC.out ?_) | (refine wpList_store_new a57 _ _ rfl rfl rfl rfl rfl rfl rfl rfl ?_))
                            rw [← HZ2.out, ← HB2'.out]
                            clear HZ2 HB2' dK
                            obtain ⟨D, hD1, hD2⟩ := HNU5.out
                            have HOW := Lib.hid hD1
                            have HMS := Lib.hid hD2
                            have HKEY : Hid (keyOf Try.prog 9 (.string d.name) = some (keyS d.name)) := Lib.hid (Go.WideMaps.keyOf_string_mk Try.underlying9 HNS.out)
                            clear hD1 hD2
                            go_upto_region 36 with (at_lookup; refine wpList_lookup_own_ok_int (H := Unit) _ rfl _ _ 75 rfl 9 3 .i64 kd9 Try.underlying75 Try.underlying3 (ze3 _) m PL.length D rfl HOW.out _ _ rfl HKEY.out ?_; intro c0 hat hwc)
                            have hc0 : c0 = (numP PL d.name : Int) := by
                              have h1 := HMS.out.at_ d.name
                              rw [hat] at h1
                              injection h1 with h1
                              injection h1
                            clear hat hwc n0
                            subst hc0
                            rw [HMS.out.has_ d.name]
                            obtain ⟨z, hz⟩ : ∃ z, z = numP PL d.name := ⟨_, rfl⟩
                            rw [← hz]
                            by_cases hz0 : z = 0
                            · as_aux_lemma =>
                                rw [show decide (z ≠ 0) = false by rw [decide_eq_false_iff_not]; exact fun h => h hz0]
                                have HZ0 : Hid (numP PL d.name = 0) := Lib.hid (by rw [← hz]; exact hz0)
                                clear hz hz0
                                have r2 := HR2.out Z3 (HCV.out.trans HCZ4.out)
                                go_wp2_with (refine wpList_store_row a30 _ _ rfl rfl rfl rfl rfl r2 rfl rfl rfl ?_)
                                refine bodyPost_ret (ret_cell2 rfl a30 rfl (by rw [row_setRow, if_pos rfl, r2]; rfl) rfl rfl) rfl ?_
                                exact post_bad (k := 13) (by decide) (by unfold errL; rw [HE1.out, HE2.out, HE3.out, HE4.out, show e5 L = true by unfold e5; rw [all_bad HS2.out (all_bad HD.out (by rw [← HPL.out, HZ0.out]; rfl))]; rfl]; rfl) ((HC0.out.1.trans (HCV.out.trans HCZ4.out)).setRow (.inr HC0.out.2.1) _)
                            · as_aux_lemma =>
                                rw [show decide (z ≠ 0) = true by rw [decide_eq_true_eq]; exact hz0]
                                have HZ0 := Lib.hid hz0
                                have HZ1 := Lib.hid hz
                                clear hz hz0
                                obtain ⟨x1, hx1⟩ : ∃ x, x = bsF L q + sumO L (q : Int) a := ⟨_, rfl⟩
                                obtain ⟨x, hx⟩ : ∃ x, x = x1 + d.at_ := ⟨_, rfl⟩
                                have HXE : Hid (x = bsF L d.sec.toNat + sumO L d.sec a + d.at_) := Lib.hid (by rw [hx, hx1, HQ.out]; rfl)
                                have HDL : Hid (d.at_ ≤ 16384) := Lib.hid (by
                                  have h1 := HDB.out.2.2
                                  have h2 : sizeO s d.sec ≤ 16384 := by
                                    obtain ⟨a, b, c⟩ := HSZ.out s (List.mem_of_getElem? HS2.out)
                                    unfold sizeO
                                    split; exact a; split; exact b; split; exact c; omega
                                  omega)
                                have s0 : Hid (Z3.cell? ⟨F, 2, none⟩ = some (.slice pv Rs.length cv)) := Lib.hid (by rw [row_cell HLF5.out.row]; rfl)
                                have s1 : Hid (Z3.cell? ⟨Bd, 0, none⟩ = some (.int .i64 (q : Int))) := Lib.hid (by rw [row_cell HRD.out, ← HQ.out]; rfl)
                                have s2 : Hid (Z3.cell? ⟨Bd, 1, none⟩ = some (.int .u32 (d.at_ : Int))) := Lib.hid (by rw [row_cell HRD.out]; rfl)
                                have s5 : Hid (Z3.cell? ⟨Bd, 2, none⟩ = some (.int .i64 d.ty)) := Lib.hid (by rw [row_cell HRD.out]; rfl)
                                have s6 : Hid (Z3.cell? ⟨Bd, 4, none⟩ = some (.int .u32 (d.add : Int))) := Lib.hid (by rw [row_cell HRD.out]; rfl)
                                have s3 : Hid (Z3.cell? ⟨T8, q, none⟩ = some (.int .u32 (bsF L q : Int))) := Lib.hid (HK8.out _ HCZ4.out q HQ3.out)
                                have s4 : Hid (Z3.cell? ⟨A, a * 3 + q, none⟩ = some (.int .u32 (sumO L (q : Int) a : Int))) := Lib.hid (HKA.out _ HCZ4.out a q HJN.out HQ3.out)
                                have wx1 : IntKind.u32.wrap ((bsF L q : Int) + (sumO L (q : Int) a : Int)) = (x1 : Int) := by rw [hx1]; exact u32add (by have := HBL2.out q; have := HSM.out (q : Int) a (by have := H16.out; have := HJN.out; omega); omega)
                                have wx2 : IntKind.u32.wrap ((x1 : Int) + (d.at_ : Int)) = (x : Int) := by rw [hx]; exact u32add (by have := HBL2.out q; have := HSM.out (q : Int) a (by have := H16.out; have := HJN.out; omega); have := HDL.out; omega)
                                have iq : (q : Int) < 3 := by have := HQ3.out; omega
                                have iq2 : q < 3 := HQ3.out
                                have ij : (a : Int) < (j : Int) := by have := HJN.out; omega
                                have ij2 : a < j := HJN.out
                                clear hx1 hx
                                go_upto_region 38 with (fail)
                                refine wp_region_C (fun w' => w'.cell? ⟨F, 2, none⟩ = some (.slice pv Rs.length cv) ∧ w'.cell? ⟨Bd, 0, none⟩ = some (.int .i64 (q : Int)) ∧ w'.cell? ⟨Bd, 1, none⟩ = some (.int .u32 (d.at_ : Int)) ∧ w'.cell? ⟨T8, q, none⟩ = some (.int .u32 (bsF L q : Int)) ∧ w'.cell? ⟨A, a * 3 + q, none⟩ = some (.int .u32 (sumO L (q : Int) a : Int)) ∧ w'.cell? ⟨Bd, 2, none⟩ = some (.int .i64 d.ty) ∧ w'.cell? ⟨Bd, 4, none⟩ = some (.int .u32 (d.add : Int))) [(0, 0), (1, 1), (2, 0), (3, 1), (4, 0), (5, 1), (6, 0), (7, 0), (8, 0), (9, 1), (10, 0), (11, 0), (12, 1), (13, 0), (14, 0), (15, 1), (16, 0), (17, 0), (18, 1), (19, 0), (20, 0), (21, 1), (22, 0), (23, 2), (24, 3), (25, 0), (26, 3)] rfl (by kernel_rfl) ?hSGR ?hTGR
                                case hSGR => exact ⟨s0.out, s1.out, s2.out, s3.out, s4.out, s5.out, s6.out⟩
                                refine wpT_pureD (v := ?_) (some 154) rfl rfl (by rfl) (fun w' => ?_) ?_
                                rotate_left
                                · (go_simp; try with_reducible rfl)
                                try simp only [Act.put, List.setIfInBounds_toArray, List.set_cons_zero, List.set_cons_succ]
                                refine wpT_readD (v := ?_) (some 155) rfl rfl (by rfl) (fun w' hw => ?_) ?_
                                rotate_left
                                · (obtain ⟨q0, q1, q2, q3, q4, q5, q6⟩ := hw; go_simp; try with_reducible rfl)
                                try simp only [Act.put, List.setIfInBounds_toArray, List.set_cons_zero, List.set_cons_succ]
                                refine wpT_pureD (v := ?_) (some 156) rfl rfl (by rfl) (fun w' => ?_) ?_
                                rotate_left
                                · (go_simp; try with_reducible rfl)
                                try simp only [Act.put, List.setIfInBounds_toArray, List.set_cons_zero, List.set_cons_succ]
                                refine wpT_readD (v := ?_) (some 157) rfl rfl (by rfl) (fun w' hw => ?_) ?_
                                rotate_left
                                · (obtain ⟨q0, q1, q2, q3, q4, q5, q6⟩ := hw; go_simp; try with_reducible rfl)
                                try simp only [Act.put, List.setIfInBounds_toArray, List.set_cons_zero, List.set_cons_succ]
                                refine wpT_pureD (v := ?_) (some 158) rfl rfl (by rfl) (fun w' => ?_) ?_
                                rotate_left
                                · (go_simp; try with_reducible rfl)
                                try simp only [Act.put, List.setIfInBounds_toArray, List.set_cons_zero, List.set_cons_succ]
                                refine wpT_readD (v := ?_) (some 159) rfl rfl (by rfl) (fun w' hw => ?_) ?_
                                rotate_left
                                · (obtain ⟨q0, q1, q2, q3, q4, q5, q6⟩ := hw; go_simp; try with_reducible rfl)
                                try simp only [Act.put, List.setIfInBounds_toArray, List.set_cons_zero, List.set_cons_succ]
                                refine wpT_pureD (v := ?_) (some 160) rfl rfl (by rfl) (fun w' => ?_) ?_
                                rotate_left
                                · (go_simp; try with_reducible rfl)
                                try simp only [Act.put, List.setIfInBounds_toArray, List.set_cons_zero, List.set_cons_succ]
                                refine wpT_pureD (v := ?_) (some 161) rfl rfl (by rfl) (fun w' => ?_) ?_
                                rotate_left
                                · (go_simp; try with_reducible rfl)
                                try simp only [Act.put, List.setIfInBounds_toArray, List.set_cons_zero, List.set_cons_succ]
                                refine wpT_pureD (v := ?_) (some 162) rfl rfl (by rfl) (fun w' => ?_) ?_
                                rotate_left
                                · (go_simp; try with_reducible rfl)
                                try simp only [Act.put, List.setIfInBounds_toArray, List.set_cons_zero, List.set_cons_succ]
                                refine wpT_readD (v := ?_) (some 163) rfl rfl (by rfl) (fun w' hw => ?_) ?_
                                rotate_left
                                · (obtain ⟨q0, q1, q2, q3, q4, q5, q6⟩ := hw; go_simp; try with_reducible rfl)
                                try simp only [Act.put, List.setIfInBounds_toArray, List.set_cons_zero, List.set_cons_succ]
                                refine wpT_pureD (v := ?_) (some 164) rfl rfl (by rfl) (fun w' => ?_) ?_
                                rotate_left
                                · (go_simp; try with_reducible rfl)
                                try simp only [Act.put, List.setIfInBounds_toArray, List.set_cons_zero, List.set_cons_succ]
                                refine wpT_pureD (v := ?_) (some 165) rfl rfl (by rfl) (fun w' => ?_) ?_
                                rotate_left
                                · (go_simp; try with_reducible rfl)
                                try simp only [Act.put, List.setIfInBounds_toArray, List.set_cons_zero, List.set_cons_succ]
                                refine wpT_readD (v := ?_) (some 166) rfl rfl (by rfl) (fun w' hw => ?_) ?_
                                rotate_left
                                · (obtain ⟨q0, q1, q2, q3, q4, q5, q6⟩ := hw; go_simp; try with_reducible rfl)
                                try simp only [Act.put, List.setIfInBounds_toArray, List.set_cons_zero, List.set_cons_succ]
                                refine wpT_pureD (v := ?_) (some 167) rfl rfl (by rfl) (fun w' => ?_) ?_
                                rotate_left
                                · (go_simp; try with_reducible rfl)
                                try simp only [Act.put, List.setIfInBounds_toArray, List.set_cons_zero, List.set_cons_succ]
                                refine wpT_pureD (v := ?_) (some 168) rfl rfl (by rfl) (fun w' => ?_) ?_
                                rotate_left
                                · (go_simp; try with_reducible rfl)
                                try simp only [Act.put, List.setIfInBounds_toArray, List.set_cons_zero, List.set_cons_succ]
                                refine wpT_readD (v := ?_) (some 169) rfl rfl (by rfl) (fun w' hw => ?_) ?_
                                rotate_left
                                · (obtain ⟨q0, q1, q2, q3, q4, q5, q6⟩ := hw; go_simp; try with_reducible rfl)
                                try simp only [Act.put, List.setIfInBounds_toArray, List.set_cons_zero, List.set_cons_succ]
                                refine wpT_pureD (v := ?_) (some 170) rfl rfl (by rfl) (fun w' => ?_) ?_
                                rotate_left
                                · (go_simp; try with_reducible rfl)
                                try simp only [Act.put, List.setIfInBounds_toArray, List.set_cons_zero, List.set_cons_succ]
                                refine wpT_pureD (v := ?_) (some 171) rfl rfl (by rfl) (fun w' => ?_) ?_
                                rotate_left
                                · (go_simp; try with_reducible rfl)
                                try simp only [Act.put, List.setIfInBounds_toArray, List.set_cons_zero, List.set_cons_succ]
                                refine wpT_readD (v := ?_) (some 172) rfl rfl (by rfl) (fun w' hw => ?_) ?_
                                rotate_left
                                · (obtain ⟨q0, q1, q2, q3, q4, q5, q6⟩ := hw; go_simp; try with_reducible rfl)
                                try simp only [Act.put, List.setIfInBounds_toArray, List.set_cons_zero, List.set_cons_succ]
                                refine wpT_pureD (v := ?_) (some 173) rfl rfl (by rfl) (fun w' => ?_) ?_
                                rotate_left
                                · (go_simp; try with_reducible rfl)
                                try simp only [Act.put, List.setIfInBounds_toArray, List.set_cons_zero, List.set_cons_succ]
                                refine wpT_pureD (v := ?_) (some 174) rfl rfl (by rfl) (fun w' => ?_) ?_
                                rotate_left
                                · (go_simp; try with_reducible rfl)
                                try simp only [Act.put, List.setIfInBounds_toArray, List.set_cons_zero, List.set_cons_succ]
                                refine wpT_readD (v := ?_) (some 175) rfl rfl (by rfl) (fun w' hw => ?_) ?_
                                rotate_left
                                · (obtain ⟨q0, q1, q2, q3, q4, q5, q6⟩ := hw; go_simp; try with_reducible rfl)
                                try simp only [Act.put, List.setIfInBounds_toArray, List.set_cons_zero, List.set_cons_succ]
                                refine wpT_pureD (v := ?_) (some 176) rfl rfl (by rfl) (fun w' => ?_) ?_
                                rotate_left
                                · (go_simp; try with_reducible rfl)
                                try simp only [Act.put, List.setIfInBounds_toArray, List.set_cons_zero, List.set_cons_succ]
                                refine wpT_eff rfl (by rfl) (fun K hK => ?_)
                                clear wx1 wx2 iq iq2 ij ij2
                                go_wp2_with fail
                                obtain ⟨w2, hw2⟩ : ∃ w2, w2 = (Z3.alloc (.cells #[.int .u32 (x : Int), .int .i64 d.ty, .int .i64 (z : Int), .int .u32 (d.add : Int)] 44)).drew := ⟨_, rfl⟩
                                obtain ⟨g, hg⟩ : ∃ g, g = Z3.heap.size := ⟨_, rfl⟩
                                rw [← hw2, ← hg]
                                have hcc : Chg [] Z3 w2 := by rw [hw2]; exact ((Chg.refl _ _).alloc _).drew
                                have HLF6 := Lib.hid (HLF5.out.keep hcc)
                                have HG2 : Hid (w2.row? g = some (RlC ⟨x, d.ty, z, d.add⟩).toArray) := Lib.hid (by rw [hw2, row_drew]; exact row_alloc_at _ _ _ _ hg)
                                have HNU6 := Lib.hid (HNU5.out.keep hcc (by simp))
                                have HC6' : Hid (Chg [] V1 w2) := Lib.hid (HCZ4.out.trans hcc)
                                refine hK _ _ ⟨keepc s0.out hcc (by simp), keepc s1.out hcc (by simp), keepc s2.out hcc (by simp), keepc s3.out hcc (by simp), keepc s4.out hcc (by simp), keepc s5.out hcc (by simp), keepc s6.out hcc (by simp)⟩ ?_
                                clear hw2 hg hcc hK K
                                try simp only [Act.put, List.setIfInBounds_toArray, List.set_cons_zero, List.set_cons_succ]
                                refine wpT_brk rfl (by rfl) (fun K hK => ?_)
                                refine (app_structL rfl _ _ 27 44 _ 4 32 rfl Try.underlying27 info44 rfl (by decide) (by decide) H0 (.slice pv Rs.length cv) Rs.length (Rs.flatMap RlC) rfl HLF6.out.or_ g (RlC ⟨x, d.ty, z, d.add⟩) rfl rfl HG2.out (by simp [RlC, Value.oneCell']) (by have := HLN4.out; have := H16.out; have := HJN.out; have := HKN.out; have := HFL2.out.1; omega) (by have := HC6'.out.size; have := HC2.out.2; omega) ?_)
                                intro v3 w3 hx1 hx2 hx3
                                obtain ⟨p4, c4, rfl, -⟩ := own_form hx1
                                have HL7 := Lib.hid (HLF6.out.rel hx1 hx2 hx3)
                                have HNU7 : Hid (NumAt (w3.setCell ⟨F, 2, none⟩ (.slice p4 (Rs.length + 1) c4)) m PL) := Lib.hid (HNU6.out.keep HL7.out.2 (by
                                  rw [List.mem_cons, not_or, Option.mem_toList]
                                  exact ⟨fun e => HLF6.out.ne e.symm, fun e => (HLF6.out.nr m e).2.1 rfl⟩))
                                have HC7 : Hid (Chg [] V1 (w3.setCell ⟨F, 2, none⟩ (.slice p4 (Rs.length + 1) c4))) := Lib.hid (chg_newer HC6'.out HL7.out.2 (by
                                  intro g hg
                                  rw [List.mem_cons, Option.mem_toList] at hg
                                  rcases hg with e | e
                                  · have := HLF6.out.hF; have := HC2.out.2; omega
                                  · have := (HLF6.out.or_.lt g e).1; have := HC2.out.2; omega))
                                have hr3 := ((grown_chg hx2).row (row_lt HLF6.out.row) (by rw [Option.mem_toList]; intro e; exact (HLF6.out.nr F e).1 rfl)).trans HLF6.out.row
                                have fc : w3.cell? ⟨F, 2, none⟩ = some (.slice pv Rs.length cv) := by rw [row_cell hr3]; rfl
                                have ff : w3.frozen? ⟨F, 2, none⟩ = false := row_free hr3 _
                                clear hx1 hx2 hx3 hr3
                                go_wp2_with fail
                                refine wpT_pureD (v := ?_) (some 179) rfl rfl (by rfl) (fun w' => ?_) ?_
                                rotate_left
                                · (go_simp; try with_reducible rfl)
                                try simp only [Act.put, List.setIfInBounds_toArray]
                                refine wpT_brk rfl (by rfl) (fun K hK => ?_)
                                go_wp2_with fail
                                refine wpT_end ?_
                                obtain ⟨w4, hw4⟩ : ∃ w4, w4 = w3.setCell ⟨F, 2, none⟩ (.slice p4 (Rs.length + 1) c4) := ⟨_, rfl⟩
                                rw [← hw4] at HL7 HNU7 HC7
                                rw [← hw4]
                                clear hw4 fc ff
                                go_wp2_with fail
                                case roundEnd =>
                                  refine ⟨⟨k + 1, .slice p4 (Rs.length + 1) c4, HKN.out, by rw [HWK.out], ?_, HNU7.out, ?_, ?_, HC7.out⟩, by rw [HWK.out]; simp only [intOf, Int.toNat_natCast]; have := HKN.out; omega⟩
                                  · rw [refsI_succ HD.out, ← List.append_assoc, ← HRs.out, ← HXE.out, ← HZ1.out]; exact HL7.out.1
                                  · intro i r hi hr
                                    by_cases e : i = k
                                    · subst e; rw [HD.out] at hr; obtain rfl := Option.some.inj hr; rw [← HZ1.out]; exact HZ0.out
                                    · exact HNM4.out i r (by omega) hr
                                  · rw [refsI_succ HD.out, ← List.append_assoc, ← HRs.out, List.length_append]; have := HLN4.out; simp; omega
                          · have dK : ¬ (k : Int) < (s.nr : Int) := by omega
                            obtain rfl : k = s.nr := by have := HK.out; omega
                            clear hkn
                            go_wp2_with fail
                            case roundEnd =>
                              have e : refsP L PL (a + 1) = refsP L PL a ++ refsI L PL a s s.nr := by rw [refsP_succ HS2.out, HFN.out]
                              refine ⟨⟨a + 1, _, HJN.out, by rw [HWJ.out], by rw [e]; exact HLF4.out, HNU4.out, ?_, by rw [e]; have := HLN4.out; have := HFL2.out.1; omega, HCH4.out⟩, by rw [HWJ.out]; simp only [intOf, Int.toNat_natCast]; have := HJN.out; omega⟩
                              intro i s' hi hs'
                              by_cases e2 : i = a
                              · subst e2
                                rw [HS2.out] at hs'
                                obtain rfl := Option.some.inj hs'
                                exact all_good fun q r hr => by
                                  rw [decide_eq_true_eq]
                                  exact HNM4.out q r (by have := (List.getElem?_eq_some_iff.1 hr).1; have := HFN.out; omega) hr
                              · exact HNM2.out i s' (by omega) hs'
                    · as_aux_lemma =>
                        obtain rfl : a = j := by have := HJ6.out; omega
                        have dJ : ¬ (a : Int) < (a : Int) := by omega
                        clear hjn
                        obtain ⟨Rs, hRs⟩ : ∃ R, R = refsP L PL a := ⟨_, rfl⟩
                        rw [← hRs] at HLF2 HLN2
                        have HRs : Hid (refsL L = Rs) := Lib.hid (by rw [hRs, HPL.out]; unfold refsL; rw [HN.out])
                        have HE5 : Hid (e5 L = false) := Lib.hid (by
                          unfold e5
                          rw [← HPL.out, all_good fun i x hx => HNM2.out i x (by have := (List.getElem?_eq_some_iff.1 hx).1; have := HN.out; omega) hx]
                          rfl)
                        obtain ⟨ps, cs, rfl, hps⟩ := own_form HLF2.out.os
                        obtain ⟨gs, rfl, -⟩ := hps (by omega)
                        obtain ⟨pr, cr, rfl, -⟩ := own_form HLF2.out.or_
                        clear hRs hps
                        obtain ⟨D, hD1, hD2⟩ := HNU2.out
                        have HOW := Lib.hid hD1
                        have HMS := Lib.hid hD2
                        have HKEY : Hid (keyOf Try.prog 9 (.string startB) = some (keyS startB)) := Lib.hid (Go.WideMaps.keyOf_string_mk Try.underlying9 (by decide))
                        clear hD1 hD2
                        go_upto_region 42 with (at_lookup; refine wpList_lookup_own_ok_int (H := Unit) _ rfl _ _ 75 rfl 9 3 .i64 kd9 Try.underlying75 Try.underlying3 (ze3 _) m PL.length D rfl HOW.out _ _ rfl HKEY.out ?_; intro c0 hat hwc)
                        have hc0 : c0 = (numP PL startB : Int) := by
                          have h1 := HMS.out.at_ startB
                          rw [hat] at h1
                          injection h1 with h1
                          injection h1
                        clear hat hwc dJ
                        subst hc0
                        rw [HMS.out.has_ startB]
                        obtain ⟨z, hz⟩ : ∃ z, z = numP PL startB := ⟨_, rfl⟩
                        rw [← hz]
                        by_cases hz0 : z = 0
                        · rw [show decide (z ≠ 0) = false by rw [decide_eq_false_iff_not]; exact fun h => h hz0]
                          have HZ0 : Hid (numP PL startB = 0) := Lib.hid (by rw [← hz]; exact hz0)
                          clear hz hz0
                          have r2 := HR2.out wr (HCV.out.trans HCH2.out)
                          go_wp2_with (refine wpList_store_row a30 _ _ rfl rfl rfl rfl rfl r2 rfl rfl rfl ?_)
                          refine bodyPost_ret (ret_cell2 rfl a30 rfl (by rw [row_setRow, if_pos rfl, r2]; rfl) rfl rfl) rfl ?_
                          exact post_bad (k := 13) (by decide) (by unfold errL; rw [HE1.out, HE2.out, HE3.out, HE4.out, HE5.out, show e6 L = true by unfold e6; rw [← HPL.out, HZ0.out]; rfl]; rfl) ((HC0.out.1.trans (HCV.out.trans HCH2.out)).setRow (.inr HC0.out.2.1) _)
                        · rw [show decide (z ≠ 0) = true by rw [decide_eq_true_eq]; exact hz0]
                          have HZ0 := Lib.hid hz0
                          have HZ1 := Lib.hid hz
                          have HE6 : Hid (e6 L = false) := Lib.hid (by unfold e6; rw [← HPL.out, ← hz]; exact decide_eq_false hz0)
                          have HE7 : Hid (e7 L = decide (64 < PL.length + 1 ∨ 64 < Rs.length)) := Lib.hid (by unfold e7; rw [← HPL.out, HRs.out])
                          clear hz hz0
                          go_upto_region 44 with (fail)
                          have n3 : wr.cell? ⟨F, 3, none⟩ = some (.slice (some ⟨gs, 0, none⟩) (PL.length + 1) cs) := by rw [row_cell HLF2.out.row]; rfl
                          have n2 : wr.cell? ⟨F, 2, none⟩ = some (.slice pr Rs.length cr) := by rw [row_cell HLF2.out.row]; rfl
                          go_cut [199] (fun v wx => v = .bool (e7 L) ∧ wx = wr)
                          case first =>
                            go_wp2_with fail
                            all_goals go_meet
                            all_goals refine ⟨congrArg Value.bool ?_, rfl⟩
                            all_goals (rw [HE7.out, Bool.eq_iff_iff]; simp; try omega)
                          case rest =>
                            obtain ⟨rfl, h⟩ := hcut
                            obtain rfl := h.symm
                            cases h7 : e7 L
                            case true =>
                              have HE7' := Lib.hid h7
                              clear h7 n3 n2
                              have r2 := HR2.out wr (HCV.out.trans HCH2.out)
                              go_wp2_with (refine wpList_store_row a30 _ _ rfl rfl rfl rfl rfl r2 rfl rfl rfl ?_)
                              refine bodyPost_ret (ret_cell2 rfl a30 rfl (by rw [row_setRow, if_pos rfl, r2]; rfl) rfl rfl) rfl ?_
                              exact post_bad (k := 2) (by decide) (by unfold errL; rw [HE1.out, HE2.out, HE3.out, HE4.out, HE5.out, HE6.out, HE7'.out]; rfl) ((HC0.out.1.trans (HCV.out.trans HCH2.out)).setRow (.inr HC0.out.2.1) _)
                            case false =>
                              have HE7' := Lib.hid h7
                              clear h7 n2
                              obtain ⟨y, hy⟩ := symC_get HZ1.out HZ0.out
                              have HY := Lib.hid hy
                              have cz : wr.cell? ⟨gs, z, none⟩ = some (.int .u32 (y : Int)) := cellsAt HLF2.out.os rfl z _ hy
                              have iz2 : z < PL.length + 1 := by have := numP_le startB PL; have := HZ1.out; omega
                              have iz : (z : Int) < ((PL.length + 1 : Nat) : Int) := by omega
                              have n0 : wr.cell? ⟨F, 0, none⟩ = some (.int .u32 0) := by rw [row_cell HLF2.out.row]; rfl
                              have f0 : wr.frozen? ⟨F, 0, none⟩ = false := row_free HLF2.out.row _
                              clear hy
                              go_upto_region 47 with (fail)
                              clear n3 cz iz iz2 n0 f0
                              obtain ⟨X, hX⟩ : ∃ X, X = wr.setCell ⟨F, 0, none⟩ (.int .u32 (y : Int)) := ⟨_, rfl⟩
                              rw [← hX]
                              have hcx : Chg [F] wr X := by rw [hX]; exact (Chg.refl [F] wr).setCell (.inl (by simp)) _
                              have HXF : Hid (X.row? F = some #[.int .u32 (y : Int), .slice none 0 0, .slice pr Rs.length cr, .slice (some ⟨gs, 0, none⟩) (PL.length + 1) cs]) := Lib.hid (by rw [hX, row_setCell_same, HLF2.out.row]; rfl)
                              have HXS := Lib.hid (ownsRow_chg HLF2.out.os hcx (by intro k hk; simpa using (HLF2.out.ns k hk).1))
                              have HXR := Lib.hid (ownsRow_chg HLF2.out.or_ hcx (by intro k hk; simpa using (HLF2.out.nr k hk).1))
                              have HCX : Hid (Chg [] V1 X) := Lib.hid (chg_newer HCH2.out hcx (by intro g hg; rw [List.mem_singleton] at hg; subst hg; have := HLF2.out.hF; have := HC2.out.2; omega))
                              have HLD8 : Hid (∀ (q : Nat) (u : Value), (tRow (bsF L)).toList[q]? = some u → X.cell? ⟨T8, 0 + q, none⟩ = some u) := Lib.hid fun q u hu => by rw [row_cell ((HCX.out.row (row_lt HV8.out) (by simp)).trans HV8.out), Nat.zero_add, ← Array.getElem?_toList]; exact hu
                              have HLD7 : Hid (∀ (q : Nat) (u : Value), (tRow f).toList[q]? = some u → X.cell? ⟨T7, 0 + q, none⟩ = some u) := Lib.hid fun q u hu => by rw [row_cell ((HCX.out.row (row_lt HV7.out) (by simp)).trans HV7.out), Nat.zero_add, ← Array.getElem?_toList]; exact hu
                              clear hX hcx
                              have HSG := Lib.hid (segs_any (c := c) (p := some ⟨b, o, none⟩) (HSV.out X HCX.out) HN.out H16.out.2 (fun _ => rfl) (fun s hs => by
                                have h := HSZ.out s hs
                                obtain ⟨i, hi⟩ := List.mem_iff_getElem?.1 hs
                                have h2 := (HSV.out X HCX.out i s hi).2
                                have := h2.Cn
                                have := h2.Dn
                                omega) (bsF L) f (by have := HFL.out 1; have := HFL.out 2; omega))
                              go_wp2_with (first | (refine wpList_load_part a71 (tRow (bsF L)).toList rfl _ rfl rfl rfl HLD8.out ?_) | (refine wpList_load_part a71 (tRow f).toList rfl _ rfl rfl rfl HLD7.out ?_))
                              refine HSG.out.mono ?_
                              rintro e w8 ⟨vg, rfl, hsg, hc8⟩
                              obtain ⟨vc, vd, g1, g2, g3⟩ := hsg.ex
                              obtain ⟨pg, cg, rfl, -⟩ := own_form g3
                              have HSGO := Lib.hid hsg
                              have HC8 := Lib.hid hc8
                              have HWF := Lib.hid ((hc8.row (row_lt HXF.out) (by simp)).trans HXF.out)
                              have HXS8 := Lib.hid (ownsRow_chg HXS.out hc8 (by intro k _; simp))
                              have HXR8 := Lib.hid (ownsRow_chg HXR.out hc8 (by intro k _; simp))
                              have n1 : w8.cell? ⟨F, 1, none⟩ = some (.slice none 0 0) := by rw [row_cell HWF.out]; rfl
                              have f1 : w8.frozen? ⟨F, 1, none⟩ = false := row_free HWF.out _
                              clear g1 g2 g3 hsg hc8 HSG HLD8 HLD7
                              go_upto_region 48 with (fail)
                              clear n1 f1
                              obtain ⟨k2, hk2⟩ : ∃ k2, k2 = (if 0 < f 1 + f 2 then 2 else 1) := ⟨_, rfl⟩
                              rw [← hk2] at HSGO
                              rw [← hk2]
                              clear hk2
                              obtain ⟨Y, hY⟩ : ∃ Y, Y = w8.setCell ⟨F, 1, none⟩ (.slice pg k2 cg) := ⟨_, rfl⟩
                              rw [← hY]
                              have hcy : Chg [F] w8 Y := by rw [hY]; exact (Chg.refl [F] w8).setCell (.inl (by simp)) _
                              have HYF : Hid (Y.row? F = some #[.int .u32 (y : Int), .slice pg k2 cg, .slice pr Rs.length cr, .slice (some ⟨gs, 0, none⟩) (PL.length + 1) cs]) := Lib.hid (by rw [hY, row_setCell_same, HWF.out]; rfl)
                              have HYS := Lib.hid (ownsRow_chg HXS8.out hcy (by intro k hk; simpa using (HLF2.out.ns k hk).1))
                              have HYR := Lib.hid (ownsRow_chg HXR8.out hcy (by intro k hk; simpa using (HLF2.out.nr k hk).1))
                              have HFX : Hid (F < X.heap.size) := Lib.hid (row_lt HXF.out)
                              have HYG := Lib.hid (HSGO.out.keep hcy (by intro k hk; rw [List.mem_singleton] at hk; subst hk; exact HFX.out))
                              have HCY2 : Hid (Chg [] V1 Y) := Lib.hid (chg_newer (HCX.out.trans HC8.out) hcy (by intro g hg; rw [List.mem_singleton] at hg; subst hg; have := HLF2.out.hF; have := HC2.out.2; omega))
                              have r2 := HR2.out Y (HCV.out.trans HCY2.out)
                              have HLD : Hid (∀ (q : Nat) (u : Value), [Value.int .u32 (y : Int), .slice pg k2 cg, .slice pr Rs.length cr, .slice (some ⟨gs, 0, none⟩) (PL.length + 1) cs][q]? = some u → Y.cell? ⟨F, 0 + q, none⟩ = some u) := Lib.hid fun q u hu => by rw [row_cell HYF.out, Nat.zero_add]; simpa using hu
                              clear hY hcy
                              go_wp2_with (first | (refine wpList_load_part a30 [Value.int .u32 (y : Int), .slice pg k2 cg, .slice pr Rs.length cr, .slice (some ⟨gs, 0, none⟩) (PL.length + 1) cs] rfl _ rfl rfl rfl HLD.out ?_) | (refine wpList_store_row a30 _ _ rfl rfl rfl rfl rfl r2 rfl rfl rfl ?_))
                              refine bodyPost_ret (ret_cell2 rfl a30 rfl (by rw [row_setRow, if_pos rfl, r2]; rfl) rfl rfl) rfl ?_
                              have hE : errL L = 0 := by unfold errL; rw [HE1.out, HE2.out, HE3.out, HE4.out, HE5.out, HE6.out, HE7'.out]; rfl
                              have hR : R2 < H0 := by have := HC0.out.2.2; have := HCV.out.size; have := HC2.out.2; omega
                              have hc9 : Chg [R2] Y (Y.setRow R2 #[.int .u32 (y : Int), .slice pg k2 cg, .slice pr Rs.length cr, .slice (some ⟨gs, 0, none⟩) (PL.length + 1) cs]) := (Chg.refl [R2] Y).setRow (.inl (by simp)) _
                              have hWH : W.heap.size ≤ H0 := by have := HC0.out.1.size; have := HCV.out.size; have := HC2.out.2; omega
                              refine ⟨#[.int .u32 (y : Int), .slice pg k2 cg, .slice pr Rs.length cr, .slice (some ⟨gs, 0, none⟩) (PL.length + 1) cs], by rw [hE]; rfl, fun h => absurd hE h, fun _ => ⟨⟨.slice pg k2 cg, .slice pr Rs.length cr, .slice (some ⟨gs, 0, none⟩) (PL.length + 1) cs, ?_, ?_, ?_, ?_⟩⟩, chg_in ((HC0.out.1.trans HCV.out).trans HCY2.out) hc9 HC0.out.2.1⟩
                              · rw [← HPL.out, ← HZ1.out, HY.out]; rfl
                              · have hf : f = fun s : Nat => sumO L (s : Int) L.length := by rw [HN.out]; exact HF.out
                                have h := (HYG.out.keep hc9 (by intro k hk; rw [List.mem_singleton] at hk; subst hk; have := HCX.out.size; have := HC2.out.2; omega)).low (b2 := W.heap.size) (by have := HCX.out.size; have := HC2.out.2; omega)
                                rw [hf] at h
                                exact h
                              · rw [HRs.out]
                                exact own_base (ownsRow_chg HYR.out hc9 (by intro k hk; have := (HYR.out.lt k hk).1; rw [List.mem_singleton]; omega)) hWH
                              · rw [← HPL.out]
                                exact own_base (ownsRow_chg HYS.out hc9 (by intro k hk; have := (HYS.out.lt k hk).1; rw [List.mem_singleton]; omega)) hWH
end Go.Proofs.L
