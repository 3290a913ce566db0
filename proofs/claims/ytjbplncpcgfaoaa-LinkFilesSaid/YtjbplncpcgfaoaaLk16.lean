/- Proved here: lemmas and contracts (Lk16) for the laws of this seat, for all values of the stated types; no further condition. -/
import Derived.Test.YtjbplncpcgfaoaaLk15
open Go Go.RowKit Go.Lib Go.Maps
namespace Go.Proofs.L
attribute [local irreducible] wpT
/-! the reference's Link -/
theorem symR_of {P : List (ByteArray × Nat)} {z y : Nat} (h : (symC P)[z]? = some (.int .u32 (y : Int))) : (symR P)[z]? = some (.int .i64 (y : Int)) := by
  unfold symC at h
  unfold symR
  rw [List.getElem?_map] at h ⊢
  cases e : (0 :: P.map (·.2))[z]? with
  | none => rw [e] at h; cases h
  | some x =>
    rw [e] at h
    have h2 := Option.some.inj h
    injection h2 with h3 h4
    have : x = y := by omega
    rw [this]; rfl
set_option maxRecDepth 100000 in
set_option maxHeartbeats 8000000 in
theorem rlink_any {W : World} {p : Option Addr} {b o n c : Nat} {L : List Ob} {T : List Rb} (hS : RosAt W b o L T) (hA : ∀ s ∈ L, ObOk W s) (hB : ∀ (i : Nat) (s : Ob) (t : Rb), L[i]? = some s → T[i]? = some t → RbOk W s t)
    (hn : L.length = n) (hT : T.length = n) (hp : 0 < n → p = some ⟨b, o, none⟩) (hl : ∀ s ∈ L, LongO s) :
    Calls Try.prog 10 #[.slice p n c] W (RlPost W L) := by
  have HS : Hid (∀ V, Chg [] W V → RosAt V b o L T) := Lib.hid fun V hV => hS.keep hV
  have HA : Hid (∀ V, Chg [] W V → ∀ s ∈ L, ObOk V s) := Lib.hid fun V hV s hs => (hA s hs).keep hV
  have HB : Hid (∀ V, Chg [] W V → ∀ (i : Nat) (s : Ob) (t : Rb), L[i]? = some s → T[i]? = some t → RbOk V s t) := Lib.hid fun V hV i s t h1 h2 => (hB i s t h1 h2).keep hV
  have HN := Lib.hid hn
  have HT := Lib.hid hT
  have HP := Lib.hid hp
  have HL := Lib.hid hl
  clear hS hA hB hn hT hp hl
  go_enter Try.func10, Try.ntmps10
  go_upto_region 1 with (fail)
  obtain ⟨R2, hR2⟩ : ∃ H, H = W.heap.size := ⟨_, rfl⟩
  obtain ⟨V0, hV⟩ : ∃ V, V = W.alloc (.cells zR 38) := ⟨_, rfl⟩
  have hV' : W.alloc (.cells #[.int .i64 0, .slice none 0 0, .slice none 0 0, .slice none 0 0, .slice none 0 0, .int .i64 0, .int .i64 0] 38) = V0 := hV.symm
  rw [hV', ← hR2]
  have HR2 : Hid (∀ V, Chg [] V0 V → V.row? R2 = some zR) := Lib.hid fun V hc => (hc.row (row_lt (by rw [hV]; exact row_alloc_at _ _ _ _ hR2)) (by simp)).trans (by rw [hV]; exact row_alloc_at _ _ _ _ hR2)
  have HC0 : Hid (Chg [] W V0 ∧ W.heap.size ≤ R2 ∧ R2 < V0.heap.size) := Lib.hid ⟨by rw [hV]; exact (Chg.refl _ _).alloc _, Nat.le_of_eq hR2.symm, by rw [hV, hR2]; simp⟩
  clear hR2 hV hV'
  skip
  go_cut [26] (fun v wx => v = .bool (e1 L) ∧ wx = V0)
  case first =>
    go_wp2_with fail
    all_goals go_meet
    all_goals refine ⟨congrArg Value.bool ?_, rfl⟩
    all_goals (rw [Bool.eq_iff_iff]; unfold e1; rw [HN.out]; simp; try omega)
  case rest =>
    obtain ⟨rfl, h⟩ := hcut
    obtain rfl := h.symm
    cases h1 : e1 L
    case true =>
      have HE1 := Lib.hid h1
      clear h1
      have r2 := HR2.out V0 (Chg.refl _ _)
      go_wp2_with (refine wpList_store_row a38 _ _ rfl rfl rfl rfl rfl r2 rfl rfl rfl ?_)
      refine bodyPost_ret (ret_cell2 rfl a38 rfl (by rw [row_setRow, if_pos rfl, r2]; rfl) rfl rfl) rfl ?_
      exact rpost_bad (k := 1) (by decide) (by unfold errL; rw [HE1.out]; rfl) (HC0.out.1.setRow (.inr HC0.out.2.1) _)
    case false =>
      have HE1 := Lib.hid h1
      have H16 : Hid (1 ≤ n ∧ n ≤ 16) := Lib.hid (by
        unfold e1 at h1
        rw [decide_eq_false_iff_not, HN.out] at h1
        omega)
      obtain rfl := HP.out (by have := H16.out; omega)
      clear h1 HP
      go_wp2_with fail
      go_loopw [6] (fun i wr => ∃ j : Nat, j ≤ n ∧ i = .int .i64 (j : Int) ∧ (∀ i s, i < j → L[i]? = some s → rightB s = true) ∧ Chg [] V0 wr) (fun i _ => n - (intOf i).toNat)
      case atStart => exact ⟨0, Nat.zero_le _, rfl, fun i s hi => by omega, Chg.refl _ _⟩
      case round =>
        obtain ⟨j, hj, rfl, hall, hch⟩ := hrel
        have HJ := Lib.hid hj
        have HALL := Lib.hid hall
        have HCH := Lib.hid hch
        clear hj hall hch
        by_cases hjn : j < n
        · skip
          as_aux_lemma =>
            have HJN := Lib.hid hjn
            have dJ : (j : Int) < (n : Int) := by omega
            have HWJ := Lib.hid (wrapK j (by have := H16.out; omega))
            obtain ⟨s, hs⟩ : ∃ s, L[j]? = some s := ⟨_, List.getElem?_eq_getElem (by rw [HN.out]; exact hjn)⟩
            obtain ⟨t, ht⟩ : ∃ s, T[j]? = some s := ⟨_, List.getElem?_eq_getElem (by rw [HT.out]; exact hjn)⟩
            have HS2 := Lib.hid hs
            have HSC := Lib.hid (HS.out _ (HC0.out.1.trans HCH.out) j s t hs ht)
            have HRI := Lib.hid (rright_any s t wr (HA.out _ (HC0.out.1.trans HCH.out) s (List.mem_of_getElem? hs)) (HB.out _ (HC0.out.1.trans HCH.out) j s t hs ht) (HL.out s (List.mem_of_getElem? hs)))
            clear hs ht hjn
            go_wp2_with (refine wpList_load_part a82 (roA s t).toList rfl _ rfl rfl rfl HSC.out ?_)
            refine HRI.out.mono ?_
            rintro e w5 ⟨rfl, hc5⟩
            have HC5 := Lib.hid (HCH.out.trans hc5)
            clear hc5 dJ
            cases hb : rightB s
            case false =>
              have HRF := Lib.hid hb
              have r2 := HR2.out w5 HC5.out
              clear hb
              go_wp2_with (refine wpList_store_row a38 _ _ rfl rfl rfl rfl rfl r2 rfl rfl rfl ?_)
              refine bodyPost_ret (ret_cell2 rfl a38 rfl (by rw [row_setRow, if_pos rfl, r2]; rfl) rfl rfl) rfl ?_
              exact rpost_bad (k := 1) (by decide) (by unfold errL; rw [HE1.out, show e2 L = true by unfold e2; rw [all_bad HS2.out HRF.out]; rfl]; rfl) ((HC0.out.1.trans HC5.out).setRow (.inr HC0.out.2.1) _)
            case true =>
              have HRF := Lib.hid hb
              clear hb
              go_wp2_with fail
              case roundEnd => exact ⟨⟨j + 1, HJN.out, by rw [HWJ.out], fun i x hi hx => by
                by_cases e : i = j
                · subst e; rw [HS2.out] at hx; obtain rfl := Option.some.inj hx; exact HRF.out
                · exact HALL.out i x (by omega) hx, HC5.out⟩, by rw [HWJ.out]; simp only [intOf, Int.toNat_natCast]; have := HJN.out; omega⟩
        · have dJ : ¬ (j : Int) < (n : Int) := by omega
          have HE2 : Hid (e2 L = false) := Lib.hid (by
            unfold e2
            rw [all_good fun i x hx => HALL.out i x (by
              have := (List.getElem?_eq_some_iff.1 hx).1
              have := HN.out
              omega) hx]
            rfl)
          clear hjn
          have HSR : Hid (∀ s ∈ L, rightB s = true) := Lib.hid (by
            have h := HE2.out
            unfold e2 at h
            simp only [Bool.not_eq_false'] at h
            exact List.all_eq_true.1 h)
          have HSZ : Hid (∀ s ∈ L, s.nc ≤ 16384 ∧ s.nd ≤ 16384 ∧ s.z ≤ 16384) := Lib.hid fun s hs => by
            have h := HSR.out s hs
            unfold rightB at h
            rw [Bool.and_eq_true, Bool.and_eq_true] at h
            have h2 := h.1.1
            unfold baseB at h2
            rw [decide_eq_true_eq] at h2
            exact ⟨h2.1, h2.2.1, h2.2.2.1⟩
          have HSM : Hid (∀ (k : Int) i, i ≤ 16 → sumO L k i ≤ 262144) := Lib.hid fun k i hi => Nat.le_trans (sumO_le k HSZ.out i) (by omega)
          have HBL2 : Hid (∀ q, bsF L q ≤ 600000) := Lib.hid fun q => bsF_le HSM.out (by rw [HN.out]; exact H16.out.2) q
          go_upto_region 9 with (fail)
          clear dJ
          have HCA := Lib.hid (HC0.out.1.trans HCH.out)
          go_wp2_with fail
          go_loopw [7, 5, 4] (fun i v5 v4 wx => ∃ j : Nat, j ≤ n ∧ i = .int .i64 (j : Int) ∧ v5 = .int .i64 (sumO L 0 j : Int) ∧ v4 = .int .i64 ((sumO L 0 j + sumO L 1 j + sumO L 2 j : Nat) : Int) ∧ Chg [] V0 wx) (fun i _ _ _ => n - (intOf i).toNat)
          case atStart => exact ⟨0, Nat.zero_le _, rfl, by rw [sumO_zero]; rfl, by rw [sumO_zero, sumO_zero, sumO_zero]; rfl, HCH.out⟩
          case round =>
            obtain ⟨j, hj, rfl, rfl, rfl, hw⟩ := hrel
            clear HCA HCH
            have HCH := Lib.hid hw
            have HCA := Lib.hid (HC0.out.1.trans hw)
            have HJ2 := Lib.hid hj
            obtain ⟨x0, hx0⟩ : ∃ x, x = sumO L 0 j := ⟨_, rfl⟩
            obtain ⟨y0, hy0⟩ : ∃ x, x = sumO L 0 j + sumO L 1 j + sumO L 2 j := ⟨_, rfl⟩
            rw [← hy0, ← hx0]
            have HX0 := Lib.hid hx0
            have HY0 := Lib.hid hy0
            clear hj hw hx0 hy0
            by_cases hjn : j < n
            · skip
              as_aux_lemma =>
                have HJN := Lib.hid hjn
                have dJ : (j : Int) < (n : Int) := by omega
                have dJn : j < n := hjn
                have HWJ := Lib.hid (wrapK j (by have := H16.out; omega))
                obtain ⟨s, hs⟩ : ∃ s, L[j]? = some s := ⟨_, List.getElem?_eq_getElem (by rw [HN.out]; exact hjn)⟩
                obtain ⟨t, ht⟩ : ∃ s, T[j]? = some s := ⟨_, List.getElem?_eq_getElem (by rw [HT.out]; exact hjn)⟩
                have HSC := Lib.hid (HS.out _ HCA.out j s t hs ht)
                have d0 : wr.cell? ⟨b, o + j * 5, none⟩ = some (.slice s.pc s.nc s.cc) := HSC.out 0 _ rfl
                have HD1 : Hid (wr.cell? ⟨b, o + j * 5 + 1, none⟩ = some (.slice s.pd s.nd s.cd)) := Lib.hid (HSC.out 1 _ rfl)
                have HD2 : Hid (wr.cell? ⟨b, o + j * 5 + 2, none⟩ = some (.int .i64 (s.z : Int))) := Lib.hid (HSC.out 2 _ rfl)
                have HB0 := Lib.hid (HSM.out 0 j (by have := H16.out; omega))
                have HB1 := Lib.hid (HSM.out 1 j (by have := H16.out; omega))
                have HB2 := Lib.hid (HSM.out 2 j (by have := H16.out; omega))
                have HZ := Lib.hid (HSZ.out s (List.mem_of_getElem? hs))
                obtain ⟨x1, hx1⟩ : ∃ x, x = x0 + s.nc := ⟨_, rfl⟩
                obtain ⟨a1, ha1⟩ : ∃ x, x = s.nc + s.nd := ⟨_, rfl⟩
                obtain ⟨a2, ha2⟩ : ∃ x, x = a1 + s.z := ⟨_, rfl⟩
                obtain ⟨y1, hy1⟩ : ∃ x, x = y0 + a2 := ⟨_, rfl⟩
                have HX1 : Hid (x1 = sumO L 0 (j + 1)) := Lib.hid (by rw [hx1, HX0.out, sumO_succ hs]; rfl)
                have HY1 : Hid (y1 = sumO L 0 (j + 1) + sumO L 1 (j + 1) + sumO L 2 (j + 1)) := Lib.hid (by
                  rw [hy1, ha2, ha1, HY0.out, sumO_succ hs, sumO_succ hs, sumO_succ hs]
                  show _ = sumO L 0 j + s.nc + (sumO L 1 j + s.nd) + (sumO L 2 j + s.z)
                  omega)
                have b1 : x0 + s.nc < 9000000000000000000 := by have h := HB0.out; have h2 := HX0.out; have h3 := HZ.out.1; rw [← h2] at h; omega
                have b2 : s.nc + s.nd < 9000000000000000000 := by have h3 := HZ.out.1; have h4 := HZ.out.2.1; omega
                have b3 : a1 + s.z < 9000000000000000000 := by have h3 := HZ.out.1; have h4 := HZ.out.2.1; have h5 := HZ.out.2.2; omega
                have b4 : y0 + a2 < 9000000000000000000 := by have h3 := HZ.out.1; have h4 := HZ.out.2.1; have h5 := HZ.out.2.2; have h := HB0.out; have h6 := HB1.out; have h7 := HB2.out; have h8 := HY0.out; omega
                have w1 : wrap64 ((x0 : Int) + (s.nc : Int)) = (x1 : Int) := by rw [hx1]; exact w64add b1
                have w2 : wrap64 ((s.nc : Int) + (s.nd : Int)) = (a1 : Int) := by rw [ha1]; exact w64add b2
                have w3 : wrap64 ((a1 : Int) + (s.z : Int)) = (a2 : Int) := by rw [ha2]; exact w64add b3
                have w4 : wrap64 ((y0 : Int) + (a2 : Int)) = (y1 : Int) := by rw [hy1]; exact w64add b4
                have HW2 := Lib.hid w2
                have HW3 := Lib.hid w3
                have HW4 := Lib.hid w4
                clear hs ht hx1 ha1 ha2 hy1 hjn w2 w3 w4 b1 b2 b3 b4
                go_upto_region 13 with (fail)
                rw [w1]
                clear w1 d0
                have w2 := HW2.out
                have w3 := HW3.out
                have w4 := HW4.out
                refine wp_region_C (fun w' => w'.cell? ⟨b, o + j * 5, none⟩ = some (.slice s.pc s.nc s.cc) ∧ w'.cell? ⟨b, o + j * 5 + 1, none⟩ = some (.slice s.pd s.nd s.cd) ∧ w'.cell? ⟨b, o + j * 5 + 2, none⟩ = some (.int .i64 (s.z : Int))) [(0, 0), (1, 0), (2, 0), (3, 0), (4, 0), (5, 1), (6, 0), (7, 0), (8, 0), (9, 0), (10, 0), (11, 1), (12, 0), (13, 0), (14, 0), (15, 0), (16, 0), (17, 0), (18, 1), (19, 0), (20, 0), (21, 3)] rfl (by kernel_rfl) ?hSA ?hTA
                case hSA => exact ⟨HSC.out 0 _ rfl, HD1.out, HD2.out⟩
                refine wpT_pureD (v := ?_) (some 55) rfl rfl (by rfl) (fun w' => ?_) ?_
                rotate_left
                · (go_simp; try with_reducible rfl)
                try simp only [Act.put, List.setIfInBounds_toArray, List.set_cons_zero, List.set_cons_succ]
                refine wpT_pureD (v := ?_) (some 56) rfl rfl (by rfl) (fun w' => ?_) ?_
                rotate_left
                · (go_simp; try with_reducible rfl)
                try simp only [Act.put, List.setIfInBounds_toArray, List.set_cons_zero, List.set_cons_succ]
                refine wpT_pureD (v := ?_) (some 57) rfl rfl (by rfl) (fun w' => ?_) ?_
                rotate_left
                · (go_simp; try with_reducible rfl)
                try simp only [Act.put, List.setIfInBounds_toArray, List.set_cons_zero, List.set_cons_succ]
                refine wpT_pureD (v := ?_) (some 58) rfl rfl (by rfl) (fun w' => ?_) ?_
                rotate_left
                · (go_simp; try with_reducible rfl)
                try simp only [Act.put, List.setIfInBounds_toArray, List.set_cons_zero, List.set_cons_succ]
                refine wpT_pureD (v := ?_) (some 59) rfl rfl (by rfl) (fun w' => ?_) ?_
                rotate_left
                · (go_simp; try with_reducible rfl)
                try simp only [Act.put, List.setIfInBounds_toArray, List.set_cons_zero, List.set_cons_succ]
                refine wpT_readD (v := ?_) (some 60) rfl rfl (by rfl) (fun w' hw => ?_) ?_
                rotate_left
                · (obtain ⟨q0, q1, q2⟩ := hw; go_simp; try with_reducible rfl)
                try simp only [Act.put, List.setIfInBounds_toArray, List.set_cons_zero, List.set_cons_succ]
                refine wpT_pureD (v := ?_) (some 61) rfl rfl (by rfl) (fun w' => ?_) ?_
                rotate_left
                · (go_simp; try with_reducible rfl)
                try simp only [Act.put, List.setIfInBounds_toArray, List.set_cons_zero, List.set_cons_succ]
                refine wpT_pureD (v := ?_) (some 62) rfl rfl (by rfl) (fun w' => ?_) ?_
                rotate_left
                · (go_simp; try with_reducible rfl)
                try simp only [Act.put, List.setIfInBounds_toArray, List.set_cons_zero, List.set_cons_succ]
                refine wpT_pureD (v := ?_) (some 63) rfl rfl (by rfl) (fun w' => ?_) ?_
                rotate_left
                · (go_simp; try with_reducible rfl)
                try simp only [Act.put, List.setIfInBounds_toArray, List.set_cons_zero, List.set_cons_succ]
                refine wpT_pureD (v := ?_) (some 64) rfl rfl (by rfl) (fun w' => ?_) ?_
                rotate_left
                · (go_simp; try with_reducible rfl)
                try simp only [Act.put, List.setIfInBounds_toArray, List.set_cons_zero, List.set_cons_succ]
                refine wpT_pureD (v := ?_) (some 65) rfl rfl (by rfl) (fun w' => ?_) ?_
                rotate_left
                · (go_simp; try with_reducible rfl)
                try simp only [Act.put, List.setIfInBounds_toArray, List.set_cons_zero, List.set_cons_succ]
                refine wpT_readD (v := ?_) (some 66) rfl rfl (by rfl) (fun w' hw => ?_) ?_
                rotate_left
                · (obtain ⟨q0, q1, q2⟩ := hw; go_simp; try with_reducible rfl)
                try simp only [Act.put, List.setIfInBounds_toArray, List.set_cons_zero, List.set_cons_succ]
                refine wpT_pureD (v := ?_) (some 67) rfl rfl (by rfl) (fun w' => ?_) ?_
                rotate_left
                · (go_simp; try with_reducible rfl)
                try simp only [Act.put, List.setIfInBounds_toArray, List.set_cons_zero, List.set_cons_succ]
                refine wpT_pureD (v := ?_) (some 68) rfl rfl (by rfl) (fun w' => ?_) ?_
                rotate_left
                · (go_simp; try with_reducible rfl)
                try simp only [Act.put, List.setIfInBounds_toArray, List.set_cons_zero, List.set_cons_succ]
                refine wpT_pureD (v := ?_) (some 69) rfl rfl (by rfl) (fun w' => ?_) ?_
                rotate_left
                · (go_simp; try with_reducible rfl)
                try simp only [Act.put, List.setIfInBounds_toArray, List.set_cons_zero, List.set_cons_succ]
                refine wpT_pureD (v := ?_) (some 70) rfl rfl (by rfl) (fun w' => ?_) ?_
                rotate_left
                · (go_simp; try with_reducible rfl)
                try simp only [Act.put, List.setIfInBounds_toArray, List.set_cons_zero, List.set_cons_succ]
                refine wpT_pureD (v := ?_) (some 71) rfl rfl (by rfl) (fun w' => ?_) ?_
                rotate_left
                · (go_simp; try with_reducible rfl)
                try simp only [Act.put, List.setIfInBounds_toArray, List.set_cons_zero, List.set_cons_succ]
                refine wpT_pureD (v := ?_) (some 72) rfl rfl (by rfl) (fun w' => ?_) ?_
                rotate_left
                · (go_simp; try with_reducible rfl)
                try simp only [Act.put, List.setIfInBounds_toArray, List.set_cons_zero, List.set_cons_succ]
                refine wpT_readD (v := ?_) (some 73) rfl rfl (by rfl) (fun w' hw => ?_) ?_
                rotate_left
                · (obtain ⟨q0, q1, q2⟩ := hw; go_simp; try with_reducible rfl)
                try simp only [Act.put, List.setIfInBounds_toArray, List.set_cons_zero, List.set_cons_succ]
                refine wpT_pureD (v := ?_) (some 74) rfl rfl (by rfl) (fun w' => ?_) ?_
                rotate_left
                · (go_simp; try with_reducible rfl)
                try simp only [Act.put, List.setIfInBounds_toArray, List.set_cons_zero, List.set_cons_succ]
                refine wpT_pureD (v := ?_) (some 75) rfl rfl (by rfl) (fun w' => ?_) ?_
                rotate_left
                · (go_simp; try with_reducible rfl)
                try simp only [Act.put, List.setIfInBounds_toArray, List.set_cons_zero, List.set_cons_succ]
                refine wpT_brk rfl (by rfl) (fun K hK => ?_)
                go_wp2_with fail
                refine wpT_end ?_
                clear w2 w3 w4
                go_wp2_with fail
                case roundEnd => exact ⟨⟨j + 1, HJN.out, by rw [HWJ.out], by rw [HX1.out], by rw [HW2.out, HW3.out, HW4.out, HY1.out], HCH.out.trans ((Chg.refl _ _).drew)⟩, by rw [HWJ.out]; simp only [intOf, Int.toNat_natCast]; have := HJN.out; omega⟩
            · have dJ : ¬ (j : Int) < (n : Int) := by omega
              obtain rfl : j = n := by have := HJ2.out; omega
              clear hjn
              go_upto_region 14 with (fail)
              have HE3 : Hid (e3 L = decide (16384 < y0 ∨ x0 = 0)) := Lib.hid (by
                unfold e3
                rw [HY0.out, HX0.out, HN.out])
              clear dJ
              go_cut [81] (fun v wx => v = .bool (e3 L) ∧ wx = wr)
              case first =>
                go_wp2_with fail
                all_goals go_meet
                all_goals refine ⟨congrArg Value.bool ?_, rfl⟩
                all_goals (rw [HE3.out, Bool.eq_iff_iff]; simp; try omega)
              case rest =>
                obtain ⟨rfl, h⟩ := hcut
                obtain rfl := h.symm
                clear HE3
                cases h3 : e3 L
                case true =>
                  have HE3 := Lib.hid h3
                  clear h3
                  have r2 := HR2.out wr HCH.out
                  go_wp2_with (refine wpList_store_row a38 _ _ rfl rfl rfl rfl rfl r2 rfl rfl rfl ?_)
                  refine bodyPost_ret (ret_cell2 rfl a38 rfl (by rw [row_setRow, if_pos rfl, r2]; rfl) rfl rfl) rfl ?_
                  exact rpost_bad (k := 2) (by decide) (by unfold errL; rw [HE1.out, HE2.out, HE3.out]; rfl) (HCA.out.setRow (.inr HC0.out.2.1) _)
                case false =>
                  have HE3 := Lib.hid h3
                  clear h3
                  obtain ⟨H0, hH⟩ : ∃ H, H = wr.heap.size := ⟨_, rfl⟩
                  go_upto_region 17 with (first | (refine wpList_store_new a38 _ _ rfl rfl rfl rfl rfl rfl rfl rfl ?_))
                  go_upto_region 18 with (fail)
                  obtain ⟨V2, hV2⟩ : ∃ V, V = ((wr.alloc (.cells #[.int .i64 0] 3)).alloc (.cells #[.int .i64 0, .slice (some ⟨H0, 0, none⟩) 1 1, .slice none 0 0, .slice none 0 0, .slice none 0 0, .int .i64 0, .int .i64 0] 38)).alloc (.cells #[.string ⟨#[]⟩] 9) := ⟨_, rfl⟩
                  have hV2' : V2 = ((wr.alloc (.cells #[.int .i64 0] 3)).alloc (.cells #[.int .i64 0, .slice (some ⟨wr.heap.size, 0, none⟩) 1 1, .slice none 0 0, .slice none 0 0, .slice none 0 0, .int .i64 0, .int .i64 0] 38)).alloc (.cells #[.string ⟨#[]⟩] 9) := by rw [hV2, hH]
                  rw [← hV2', ← hH]
                  obtain ⟨F, hF⟩ : ∃ F, F = H0 + 1 := ⟨_, rfl⟩
                  obtain ⟨m, hm⟩ : ∃ m, m = H0 + 1 + 1 := ⟨_, rfl⟩
                  rw [← hm, ← hF]
                  have HLG : Hid (Lg V2 H0 F 0 0 0 (.slice (some ⟨m, 0, none⟩) 1 1) (.slice (some ⟨H0, 0, none⟩) 1 1) (.slice none 0 0) (.slice none 0 0) (.slice none 0 0) [] [] [] [] []) := Lib.hid (by
                    have hrow : V2.row? F = some #[.int .i64 0, .slice (some ⟨H0, 0, none⟩) 1 1, .slice none 0 0, .slice none 0 0, .slice none 0 0, .int .i64 0, .int .i64 0] := by
                      rw [hV2, row_alloc_past _ _ _ (by rw [hF, hH]; simp)]; exact row_alloc_at _ _ _ _ (by rw [hF, hH]; simp)
                    refine ⟨hrow, ⟨fun i hi => ?_, fun i hi g hg => ?_, row_lt hrow⟩, by omega⟩
                    · rcases five i hi with rfl | rfl | rfl | rfl | rfl
                      · have h2 := own_new (w := (wr.alloc (.cells #[.int .i64 0] 3)).alloc (.cells #[.int .i64 0, .slice (some ⟨H0, 0, none⟩) 1 1, .slice none 0 0, .slice none 0 0, .slice none 0 0, .int .i64 0, .int .i64 0] 38)) (base := H0) (e := 9) (size := 1) (n := 1) (vs := [.string ⟨#[]⟩]) (by rw [hH]; simp; omega) rfl (by decide)
                        rw [← hV2, show ((wr.alloc (.cells #[.int .i64 0] 3)).alloc (.cells #[.int .i64 0, .slice (some ⟨H0, 0, none⟩) 1 1, .slice none 0 0, .slice none 0 0, .slice none 0 0, .int .i64 0, .int .i64 0] 38)).heap.size = m by rw [hm, hH]; simp] at h2
                        exact h2
                      · rw [hV2]
                        have h1 : (wr.alloc (.cells #[.int .i64 0] 3)).ownsRow H0 3 1 (.slice (some ⟨H0, 0, none⟩) 1 1) 1 [.int .i64 0] := by
                          rw [hH]; exact own_new (vs := [.int .i64 0]) (Nat.le_refl _) rfl (by decide)
                        exact (h1.alloc _).alloc _
                      · exact World.ownsRow_nil _ _ _ _
                      · exact World.ownsRow_nil _ _ _ _
                      · exact World.ownsRow_nil _ _ _ _
                    · rcases five i hi with rfl | rfl | rfl | rfl | rfl
                      · have hg2 : m = g := by simpa [st5, Value.ownBlock] using hg
                        refine ⟨by omega, fun j hj hn => ?_⟩
                        rcases five j hj with rfl | rfl | rfl | rfl | rfl
                        · exact absurd rfl hn
                        · intro e; have e2 : H0 = g := by simpa [st5, Value.ownBlock] using e
                          omega
                        all_goals (intro e; simp [st5, Value.ownBlock] at e)
                      · have hg2 : H0 = g := by simpa [st5, Value.ownBlock] using hg
                        refine ⟨by omega, fun j hj hn => ?_⟩
                        rcases five j hj with rfl | rfl | rfl | rfl | rfl
                        · intro e; have e2 : m = g := by simpa [st5, Value.ownBlock] using e
                          omega
                        · exact absurd rfl hn
                        all_goals (intro e; simp [st5, Value.ownBlock] at e)
                      all_goals simp [st5, Value.ownBlock] at hg)
                  have HC2 : Hid (Chg [] wr V2 ∧ wr.heap.size = H0) := Lib.hid ⟨by rw [hV2]; exact (((Chg.refl _ _).alloc _).alloc _).alloc _, hH.symm⟩
                  have HSV : Hid (∀ V, Chg [] wr V → RosAt V b o L T) := Lib.hid fun V hc => HS.out _ (HCA.out.trans hc)
                  have HAV : Hid (∀ V, Chg [] wr V → ∀ s ∈ L, ObOk V s) := Lib.hid fun V hc => HA.out _ (HCA.out.trans hc)
                  have HBV : Hid (∀ V, Chg [] wr V → ∀ (i : Nat) (s : Ob) (t : Rb), L[i]? = some s → T[i]? = some t → RbOk V s t) := Lib.hid fun V hc => HB.out _ (HCA.out.trans hc)
                  have HPLA : Hid (∀ V, Chg [] wr V → ∀ (i s : Nat), i < j → s ≤ 2 → Calls Try.prog 23 #[.slice (some ⟨b, o, none⟩) j c, .int .i64 (i : Int), .int .i64 (s : Int)] V fun e w' => e = .returned (.int .i64 ((bsF L s + sumO L (s : Int) i : Nat) : Int)) ∧ Chg [] V w') := Lib.hid fun V hc i s hi hs => place_any (HSV.out V hc) HN.out HT.out H16.out.2 (fun _ => rfl) HSZ.out i s hi hs
                  obtain ⟨V1, hV1⟩ : ∃ V, V = wr := ⟨_, rfl⟩
                  rw [← hV1] at HCH HCA HC2 HSV HAV HBV HPLA
                  clear hH hV2 hV2' hF hm hV1
                  go_wp2_with fail
                  go_loopw [10, 9] (fun i v9 wr => ∃ (q : Nat) (pn cn : Nat) (vs : Value), q ≤ j ∧ i = .int .i64 (q : Int) ∧ v9 = .slice (some ⟨pn, 0, none⟩) ((defsP L q).length + 1) cn ∧ Lg wr H0 F 0 0 0 v9 vs (.slice none 0 0) (.slice none 0 0) (.slice none 0 0) (defsP L q) (defsP L q) [] [] [] ∧ nodupB (defsP L q) = true ∧ (defsP L q).length ≤ 64 * q ∧ Chg [] V1 wr) (fun i _ _ => j - (intOf i).toNat)
                  case atStart => exact ⟨0, m, 1, _, Nat.zero_le _, rfl, by rw [defsP_zero]; rfl, by rw [defsP_zero]; exact HLG.out, by rw [defsP_zero]; rfl, by rw [defsP_zero]; exact Nat.zero_le _, HC2.out.1⟩
                  case round =>
                    obtain ⟨q, pn, cn, vs, hq, rfl, rfl, hlg, hnd, hln, hch⟩ := hrel
                    have HQ := Lib.hid hq
                    have HLG1 := Lib.hid hlg
                    have HND1 := Lib.hid hnd
                    have HLN1 := Lib.hid hln
                    have HCH1 := Lib.hid hch
                    clear hq hlg hnd hln hch
                    by_cases hqn : q < j
                    · skip
                      as_aux_lemma =>
                        have HQN := Lib.hid hqn
                        have dQ : (q : Int) < (j : Int) := by omega
                        have HWQ := Lib.hid (wrapK q (by have := H16.out; omega))
                        obtain ⟨s, hs⟩ : ∃ s, L[q]? = some s := ⟨_, List.getElem?_eq_getElem (by rw [HN.out]; exact hqn)⟩
                        obtain ⟨t, ht⟩ : ∃ s, T[q]? = some s := ⟨_, List.getElem?_eq_getElem (by rw [HT.out]; exact hqn)⟩
                        have HS2 := Lib.hid hs
                        have HRS := Lib.hid (HSR.out s (List.mem_of_getElem? hs))
                        have HOK : Hid (∀ V, Chg [] V1 V → ObOk V s) := Lib.hid fun V hV => HAV.out V hV s (List.mem_of_getElem? hs)
                        have HRB : Hid (∀ V, Chg [] V1 V → RbOk V s t) := Lib.hid fun V hV => HBV.out V hV q s t hs ht
                        have HC3 : Hid (∀ V, Chg [] V1 V → V.cell? ⟨b, o + q * 5 + 3, none⟩ = some (.slice t.pf s.nf t.cf)) := Lib.hid fun V hV => HSV.out V hV q s t hs ht 3 _ rfl
                        have HFN : Hid (s.F.length = s.nf) := Lib.hid (HOK.out _ HCH1.out).Fn
                        have HFL2 : Hid (s.nf ≤ 64 ∧ s.F.all (dfB s) = true) := Lib.hid (by
                          have h := HRS.out
                          unfold rightB at h
                          rw [Bool.and_eq_true, Bool.and_eq_true] at h
                          have h2 := h.1.1
                          unfold baseB at h2
                          rw [decide_eq_true_eq] at h2
                          exact ⟨by omega, h.1.2⟩)
                        clear hs ht hqn
                        go_upto_block 6 with (fail)
                        clear dQ
                        go_wp2_with fail
                        go_loopw [11, 9] (fun i v9 wr => ∃ (k pn cn : Nat) (vs : Value), k ≤ s.nf ∧ i = .int .i64 (k : Int) ∧ v9 = .slice (some ⟨pn, 0, none⟩) ((defsP L q ++ defsI L q s k).length + 1) cn ∧ Lg wr H0 F 0 0 0 v9 vs (.slice none 0 0) (.slice none 0 0) (.slice none 0 0) (defsP L q ++ defsI L q s k) (defsP L q ++ defsI L q s k) [] [] [] ∧ nodupB (defsP L q ++ defsI L q s k) = true ∧ (defsP L q ++ defsI L q s k).length ≤ 64 * q + k ∧ Chg [] V1 wr) (fun i _ _ => s.nf - (intOf i).toNat)
                        case atStart => exact ⟨0, pn, cn, _, Nat.zero_le _, rfl, by rw [defsI_zero, List.append_nil], by rw [defsI_zero, List.append_nil]; exact HLG1.out, by rw [defsI_zero, List.append_nil]; exact HND1.out, by rw [defsI_zero, List.append_nil]; exact HLN1.out, HCH1.out⟩
                        case round =>
                          obtain ⟨k, pn, cn, vs, hk, rfl, rfl, hlg, hnd, hln, hch⟩ := hrel
                          have HK := Lib.hid hk
                          have HLG3 := Lib.hid hlg
                          have HND3 := Lib.hid hnd
                          have HLN3 := Lib.hid hln
                          have HCH3 := Lib.hid hch
                          obtain ⟨pf, hpe⟩ : ∃ p, p = t.pf := ⟨_, rfl⟩
                          have c3 : wr.cell? ⟨b, o + q * 5 + 3, none⟩ = some (.slice pf s.nf t.cf) := by rw [hpe]; exact HC3.out wr HCH3.out
                          have HPF : Hid (0 < s.nf → pf = some ⟨t.bf, 0, none⟩) := Lib.hid (by rw [hpe]; exact (HRB.out wr HCH3.out).Fp)
                          have dJq : (q : Int) < (j : Int) := by have := HQN.out; omega
                          have dJq2 : q < j := HQN.out
                          clear hk hlg hnd hln hch hpe
                          by_cases hkn : k < s.nf
                          · have HKN := Lib.hid hkn
                            have dK : (k : Int) < (s.nf : Int) := by omega
                            have dK2 : k < s.nf := hkn
                            have HWK := Lib.hid (wrapK k (by have := HFL2.out.1; omega))
                            obtain ⟨d, hd⟩ : ∃ d, s.F[k]? = some d := ⟨_, List.getElem?_eq_getElem (by rw [HFN.out]; exact hkn)⟩
                            have HD := Lib.hid hd
                            have HDB : Hid (d.name.size ≤ 32 ∧ 0 ≤ d.sec ∧ d.sec ≤ 2 ∧ d.at_ ≤ sizeO s d.sec) := Lib.hid (by
                              have h := List.all_eq_true.1 HFL2.out.2 d (List.mem_of_getElem? hd)
                              unfold dfB at h
                              rw [decide_eq_true_eq] at h
                              exact h.2)
                            obtain ⟨z, hz⟩ : ∃ z : Nat, d.sec = (z : Int) := ⟨d.sec.toNat, by have := HDB.out; omega⟩
                            have HZ := Lib.hid hz
                            have HZ3 : Hid (z ≤ 2) := Lib.hid (by have := HDB.out; omega)
                            have HSC : Hid (∀ (i : Nat) (u : Value), (DrC d)[i]? = some u → wr.cell? ⟨t.bf, k * 3 + i, none⟩ = some u) := Lib.hid ((HRB.out _ HCH3.out).Fa k d hd)
                            obtain rfl := HPF.out (by omega)
                            obtain ⟨Z2, hZ2⟩ : ∃ Z2, Z2 = wr.alloc (.cells (DrC d).toArray 85) := ⟨_, rfl⟩
                            obtain ⟨Bd, hBd⟩ : ∃ b, b = wr.heap.size := ⟨_, rfl⟩
                            have hc2 : Chg [] wr Z2 := by rw [hZ2]; exact (Chg.refl _ _).alloc _
                            have hr2 : Z2.row? Bd = some (DrC d).toArray := by rw [hZ2]; exact row_alloc_at _ _ _ _ hBd
                            have HRD := Lib.hid hr2
                            have HC2' := Lib.hid (HCH3.out.trans hc2)
                            have HLG4 := Lib.hid (HLG3.out.keep hc2)
                            have HZ2 := Lib.hid hZ2
                            have HBd := Lib.hid hBd
                            obtain ⟨P, hP⟩ : ∃ P, P = defsP L q ++ defsI L q s k := ⟨_, rfl⟩
                            rw [← hP] at HLG4 HND3 HLN3
                            have HPP := Lib.hid hP
                            have e0 : Z2.cell? ⟨Bd, 0, none⟩ = some (.string d.name) := by rw [row_cell hr2]; rfl
                            rw [← hP]
                            have HBN : Hid (F < Bd ∧ ∀ i, i < 5 → ∀ g, (st5 (.slice (some ⟨pn, 0, none⟩) (P.length + 1) cn) vs (.slice none 0 0) (.slice none 0 0) (.slice none 0 0) P P [] [] [] i).v.ownBlock = some g → g < Bd) := Lib.hid (by
                              rw [hBd, hP]
                              exact ⟨row_lt HLG3.out.row, fun i hi g hg => ((HLG3.out.own.own i hi).lt g hg).2⟩)
                            clear hd hZ2 hBd hc2 hr2 hkn hz hP HLG3
                            go_upto_region 25 with (first | (refine wpList_load_part a85 (DrC d) rfl _ rfl rfl rfl HSC.out ?_) | (refine wpList_store_new a85 _ _ rfl rfl rfl rfl rfl rfl rfl rfl ?_))
                            rw [← HZ2.out, ← HBd.out]
                            clear HZ2 HBd dK dK2 c3 dJq dJq2
                            have HFI := Lib.hid (find_any (w := Z2) (b := pn) (cap := cn) (P := P) d.name (fun j t ht => cellsAt (HLG4.out.own.own 0 (by decide)) rfl j (.string t) (by show (nmsV P)[j]? = _; unfold nmsV; rw [List.getElem?_map, ht]; rfl)) (by have := HLN3.out; have := H16.out; have := HQN.out; have := HKN.out; have := HFL2.out.1; omega))
                            go_wp2_with fail
                            refine HFI.out.mono ?_
                            rintro e w6 ⟨rfl, hw6⟩
                            obtain rfl := hw6.symm
                            clear hw6
                            by_cases hx : numP P d.name = 0
                            · have HX0 := Lib.hid hx
                              rw [hx]
                              clear hx
                              go_upto_region 27 with (fail)
                              have HA1 : Hid (Chg [] Z2 (Z2.alloc (.cells #[.string d.name] 9))) := Lib.hid ((Chg.refl _ _).alloc _)
                              have HLG5 := Lib.hid (HLG4.out.keep HA1.out)
                              go_wp2_with (at_builtin; refine (app_structL rfl _ _ 83 9 _ 1 16 rfl Try.underlying83 info9 rfl (by decide) (by decide) H0 (.slice (some ⟨pn, 0, none⟩) (P.length + 1) cn) (P.length + 1) (nmsV P) rfl (HLG5.out.own.own 0 (by decide)) Z2.heap.size [.string d.name] rfl rfl (row_alloc_at _ _ _ _ rfl) (by simp [Value.oneCell']) (by have := HLN3.out; have := H16.out; have := HQN.out; have := HKN.out; have := HFL2.out.1; omega) (by have := HC2.out.2; have := HC2.out.1.size; have := HC2'.out.size; first | omega | (simp; omega)) ?_))
                              intro v3 w3 hx1 hx2 hx3
                              obtain ⟨x1, hx1e⟩ : ∃ x, x = bsF L z + sumO L (z : Int) q := ⟨_, rfl⟩
                              obtain ⟨x, hxe⟩ : ∃ x, x = x1 + d.at_ := ⟨_, rfl⟩
                              have HXE : Hid (x = bsF L d.sec.toNat + sumO L d.sec q + d.at_) := Lib.hid (by rw [hxe, hx1e, HZ.out]; rfl)
                              obtain ⟨p4, c4, rfl, hp4⟩ := own_form hx1
                              obtain ⟨g4, rfl, -⟩ := hp4 (by omega)
                              have HL6 := Lib.hid (HLG5.out.name (t := d.name) x hx1 hx2 (fun g hg => (hx3 g hg).imp id (fun e => by simpa using e)))
                              have HC6 : Hid (Chg [] V1 w3) := Lib.hid (chg_newer (HC2'.out.trans HA1.out) HL6.out.2 (by
                                intro g hg
                                rw [Option.mem_toList] at hg
                                have := HLG5.out.own.ge (i := 0) (by decide) g hg
                                have h8 := HC2.out.1.size; have h9 := HC2.out.2
                                omega))
                              have HRD6 : Hid (w3.row? Bd = some (DrC d).toArray) := Lib.hid ((HL6.out.2.row (Nat.lt_of_lt_of_le (row_lt HRD.out) HA1.out.size) (by
                                rw [Option.mem_toList]
                                intro e
                                exact Nat.lt_irrefl _ (HBN.out.2 0 (by decide) Bd e))).trans ((HA1.out.row (row_lt HRD.out) (by simp)).trans HRD.out))
                              have HDL : Hid (d.at_ ≤ 16384) := Lib.hid (by
                                have h1 := HDB.out.2.2.2
                                have h2 : sizeO s d.sec ≤ 16384 := by
                                  obtain ⟨a, b, c⟩ := HSZ.out s (List.mem_of_getElem? HS2.out)
                                  unfold sizeO
                                  split; exact a; split; exact b; split; exact c; omega
                                omega)
                              have hb9 : x1 + d.at_ < 9000000000000000000 := by
                                have h1 := HBL2.out z
                                have h2 := HSM.out (z : Int) q (by have := H16.out; have := HQN.out; omega)
                                have h3 := HDL.out
                                rw [hx1e]
                                omega
                              have hw9 : wrap64 ((x1 : Int) + (d.at_ : Int)) = (x : Int) := by rw [hxe]; exact w64add hb9
                              have HW9 := Lib.hid hw9
                              have HCW : Hid (Chg [] w3 w3.drew) := Lib.hid (Chg.refl _ _).drew
                              have s0 : Hid (w3.drew.cell? ⟨F, 1, none⟩ = some vs) := Lib.hid (show w3.cell? _ = _ by rw [row_cell HL6.out.1.row]; rfl)
                              have s1 : Hid (w3.drew.cell? ⟨Bd, 1, none⟩ = some (.int .i64 (z : Int))) := Lib.hid (show w3.cell? _ = _ by rw [row_cell HRD6.out, ← HZ.out]; rfl)
                              have s2 : Hid (w3.drew.cell? ⟨Bd, 2, none⟩ = some (.int .i64 (d.at_ : Int))) := Lib.hid (show w3.cell? _ = _ by rw [row_cell HRD6.out]; rfl)
                              have HPC := Lib.hid (HPLA.out w3.drew (HC6.out.trans HCW.out) q z HQN.out HZ3.out)
                              rw [← hx1e] at HPC
                              clear hx1 hx2 hx3 hxe hx1e hb9 hw9 hp4
                              have hos : w3.ownsRow H0 3 1 vs (P.length + 1) (symR P) := HL6.out.1.own.own 1 (by decide)
                              obtain ⟨ps, cs, rfl, -⟩ := own_form hos
                              clear hos
                              go_upto_region 28 with (fail)
                              clear e0
                              refine wp_region_C (fun w' => w'.cell? ⟨F, 1, none⟩ = some (.slice ps (P.length + 1) cs) ∧ w'.cell? ⟨Bd, 1, none⟩ = some (.int .i64 (z : Int)) ∧ w'.cell? ⟨Bd, 2, none⟩ = some (.int .i64 (d.at_ : Int))) [(0, 0), (1, 1), (2, 0), (3, 0), (4, 0), (5, 1), (7, 0), (8, 1), (6, 2), (9, 0), (10, 2), (11, 3), (12, 0), (13, 3)] rfl (by kernel_rfl) ?hSG ?hTG
                              case hSG => exact ⟨s0.out, s1.out, s2.out⟩
                              refine wpT_pureD (v := ?_) (some 121) rfl rfl (by rfl) (fun w' => ?_) ?_
                              rotate_left
                              · (go_simp; try with_reducible rfl)
                              try simp only [Act.put, List.setIfInBounds_toArray, List.set_cons_zero, List.set_cons_succ]
                              refine wpT_readD (v := ?_) (some 122) rfl rfl (by rfl) (fun w' hw => ?_) ?_
                              rotate_left
                              · (obtain ⟨q0, q1, q2⟩ := hw; go_simp; try with_reducible rfl)
                              try simp only [Act.put, List.setIfInBounds_toArray, List.set_cons_zero, List.set_cons_succ]
                              refine wpT_pureD (v := ?_) (some 123) rfl rfl (by rfl) (fun w' => ?_) ?_
                              rotate_left
                              · (go_simp; try with_reducible rfl)
                              try simp only [Act.put, List.setIfInBounds_toArray, List.set_cons_zero, List.set_cons_succ]
                              refine wpT_pureD (v := ?_) (some 124) rfl rfl (by rfl) (fun w' => ?_) ?_
                              rotate_left
                              · (go_simp; try with_reducible rfl)
                              try simp only [Act.put, List.setIfInBounds_toArray, List.set_cons_zero, List.set_cons_succ]
                              refine wpT_pureD (v := ?_) (some 125) rfl rfl (by rfl) (fun w' => ?_) ?_
                              rotate_left
                              · (go_simp; try with_reducible rfl)
                              try simp only [Act.put, List.setIfInBounds_toArray, List.set_cons_zero, List.set_cons_succ]
                              refine wpT_readD (v := ?_) (some 126) rfl rfl (by rfl) (fun w' hw => ?_) ?_
                              rotate_left
                              · (obtain ⟨q0, q1, q2⟩ := hw; go_simp; try with_reducible rfl)
                              try simp only [Act.put, List.setIfInBounds_toArray, List.set_cons_zero, List.set_cons_succ]
                              refine wpT_pureD (v := ?_) (some 128) rfl rfl (by rfl) (fun w' => ?_) ?_
                              rotate_left
                              · (go_simp; try with_reducible rfl)
                              try simp only [Act.put, List.setIfInBounds_toArray, List.set_cons_zero, List.set_cons_succ]
                              refine wpT_readD (v := ?_) (some 129) rfl rfl (by rfl) (fun w' hw => ?_) ?_
                              rotate_left
                              · (obtain ⟨q0, q1, q2⟩ := hw; go_simp; try with_reducible rfl)
                              try simp only [Act.put, List.setIfInBounds_toArray, List.set_cons_zero, List.set_cons_succ]
                              refine wpT_eff rfl (by rfl) (fun K hK => ?_)
                              go_wp2_with fail
                              refine HPC.out.mono ?_
                              rintro e w7 ⟨rfl, hc7⟩
                              have HC7 := Lib.hid hc7
                              clear hc7
                              go_wp2_with fail
                              refine hK _ _ ⟨keepc s0.out HC7.out (by simp), keepc s1.out HC7.out (by simp), keepc s2.out HC7.out (by simp)⟩ ?_
                              clear hK K
                              try simp only [Act.put, List.setIfInBounds_toArray, List.set_cons_zero, List.set_cons_succ]
                              refine wpT_pureD (v := ?_) (some 130) rfl rfl (by rfl) (fun w' => ?_) ?_
                              rotate_left
                              · (go_simp; try with_reducible rfl)
                              try simp only [Act.put, List.setIfInBounds_toArray, List.set_cons_zero, List.set_cons_succ]
                              refine wpT_eff rfl (by rfl) (fun K hK => ?_)
                              go_wp2_with fail
                              rw [HW9.out]
                              have HLW := Lib.hid ((HL6.out.1.keep (HCW.out.trans HC7.out)))
                              obtain ⟨w8, hw8⟩ : ∃ w8, w8 = w7.alloc (.cells #[.int .i64 (x : Int)] 3) := ⟨_, rfl⟩
                              obtain ⟨g, hg⟩ : ∃ g, g = w7.heap.size := ⟨_, rfl⟩
                              rw [← hw8, ← hg]
                              have hcc : Chg [] w7 w8 := by rw [hw8]; exact (Chg.refl _ _).alloc _
                              have HL8 := Lib.hid (HLW.out.keep hcc)
                              have HG2 : Hid (w8.row? g = some #[.int .i64 (x : Int)]) := Lib.hid (by rw [hw8]; exact row_alloc_at _ _ _ _ hg)
                              have HC8 : Hid (Chg [] V1 w8) := Lib.hid ((HC6.out.trans (HCW.out.trans HC7.out)).trans hcc)
                              refine hK _ _ ⟨keepc (keepc s0.out HC7.out (by simp)) hcc (by simp), keepc (keepc s1.out HC7.out (by simp)) hcc (by simp), keepc (keepc s2.out HC7.out (by simp)) hcc (by simp)⟩ ?_
                              clear hw8 hg hcc hK K
                              try simp only [Act.put, List.setIfInBounds_toArray, List.set_cons_zero, List.set_cons_succ]
                              refine wpT_brk rfl (by rfl) (fun K hK => ?_)
                              refine (app_srcL rfl _ _ 34 3 .i64 8 rfl Try.underlying34 info3 (by decide) H0 (.slice ps (P.length + 1) cs) (P.length + 1) (0 :: P.map fun p : ByteArray × Nat => p.2) rfl (HL8.out.own.own 1 (by decide)) (some ⟨g, 0, none⟩) 1 1 [x] rfl rfl (fun h => by cases h) (fun ad h i y hy => by
                                obtain rfl := Option.some.inj h
                                rcases i with _ | i
                                · obtain rfl := Option.some.inj hy
                                  rw [addr_at, row_cell HG2.out]; rfl
                                · simp at hy) (by have := HLN3.out; have := H16.out; have := HQN.out; have := HKN.out; have := HFL2.out.1; omega) (by have := HC8.out.size; have := HC2.out.2; omega) ?_)
                              intro v9 w9 hx1 hx2 hx3
                              obtain ⟨p5, c5, rfl, -⟩ := own_form hx1
                              have HL9 := Lib.hid (HL8.out.sym d.name (y := x) (by simpa [symR] using hx1) hx2 hx3)
                              have HC9 : Hid (Chg [] V1 (w9.setCell ⟨F, 1, none⟩ (.slice p5 (P.length + 1 + 1) c5))) := Lib.hid (chg_newer HC8.out HL9.out.2 (by
                                intro g hg
                                rw [List.mem_cons, Option.mem_toList] at hg
                                have h8 := HC2.out.1.size
                                have h9 := HC2.out.2
                                rcases hg with e | e
                                · have := HL8.out.hF; omega
                                · have := HL8.out.own.ge (i := 1) (by decide) g e; omega))
                              have hr3 := ((grown_chg hx2).row (row_lt HL8.out.row) (by rw [Option.mem_toList]; intro e; exact (HL8.out.own.ne 1 (by decide) F e).1 rfl)).trans HL8.out.row
                              have fc : w9.cell? ⟨F, 1, none⟩ = some (.slice ps (P.length + 1) cs) := by rw [row_cell hr3]; rfl
                              have ff : w9.frozen? ⟨F, 1, none⟩ = false := row_free hr3 _
                              clear hx1 hx2 hx3 hr3
                              go_wp2_with fail
                              refine wpT_pureD (v := ?_) (some 133) rfl rfl (by rfl) (fun w' => ?_) ?_
                              rotate_left
                              · (go_simp; try with_reducible rfl)
                              try simp only [Act.put, List.setIfInBounds_toArray]
                              refine wpT_brk rfl (by rfl) (fun K hK => ?_)
                              go_wp2_with fail
                              refine wpT_end ?_
                              obtain ⟨wz, hwz⟩ : ∃ w4, w4 = w9.setCell ⟨F, 1, none⟩ (.slice p5 (P.length + 1 + 1) c5) := ⟨_, rfl⟩
                              rw [← hwz] at HL9 HC9
                              rw [← hwz]
                              clear hwz fc ff
                              go_wp2_with fail
                              case roundEnd =>
                                have e : defsP L q ++ defsI L q s (k + 1) = P ++ [(d.name, x)] := by rw [defsI_succ HD.out, ← List.append_assoc, ← HPP.out, ← HXE.out]
                                refine ⟨⟨k + 1, g4, c4, .slice p5 (P.length + 1 + 1) c5, HKN.out, by rw [HWK.out], ?_, ?_, ?_, ?_, HC9.out⟩, by rw [HWK.out]; simp only [intOf, Int.toNat_natCast]; have := HKN.out; omega⟩
                                · rw [e, List.length_append]; rfl
                                · rw [e]; exact HL9.out.1
                                · rw [e]; exact once HND3.out HX0.out
                                · rw [e, List.length_append]; have := HLN3.out; simp; omega
                            · have HX0 := Lib.hid hx
                              have dz : ((numP P d.name : Nat) : Int) > 0 := by omega
                              have dz2 : 0 < numP P d.name := by omega
                              have r2 := HR2.out Z2 (HCH.out.trans HC2'.out)
                              clear hx
                              go_wp2_with (refine wpList_store_row a38 _ _ rfl rfl rfl rfl rfl r2 rfl rfl rfl ?_)
                              refine bodyPost_ret (ret_cell2 rfl a38 rfl (by rw [row_setRow, if_pos rfl, r2]; rfl) rfl rfl) rfl ?_
                              exact rpost_bad (k := 11) (by decide) (by unfold errL; rw [HE1.out, HE2.out, HE3.out, show e4 L = true from twice HS2.out HD.out (by rw [← HPP.out]; exact HX0.out)]; rfl) ((HCA.out.trans HC2'.out).setRow (.inr HC0.out.2.1) _)
                          · have dK : ¬ (k : Int) < (s.nf : Int) := by omega
                            obtain rfl : k = s.nf := by have := HK.out; omega
                            clear hkn
                            go_wp2_with fail
                            case roundEnd =>
                              have e : defsP L (q + 1) = defsP L q ++ defsI L q s s.nf := by rw [defsP_succ HS2.out, HFN.out]
                              refine ⟨⟨q + 1, pn, cn, _, HQN.out, by rw [HWQ.out], by rw [e], by rw [e]; exact HLG3.out, by rw [e]; exact HND3.out, by rw [e]; have := HLN3.out; have := HFL2.out.1; omega, HCH3.out⟩, by rw [HWQ.out]; simp only [intOf, Int.toNat_natCast]; have := HQN.out; omega⟩
                    · obtain rfl : q = j := by have := HQ.out; omega
                      have dQ : ¬ (q : Int) < (q : Int) := by omega
                      clear hqn
                      have eP : defsP L q = defsL L := by unfold defsL; rw [HN.out]
                      obtain ⟨PL, hPL⟩ : ∃ P, P = defsL L := ⟨_, rfl⟩
                      rw [eP, ← hPL] at HLG1 HND1 HLN1
                      rw [eP, ← hPL]
                      have HPL := Lib.hid hPL
                      have HE4 : Hid (e4 L = false) := Lib.hid (by unfold e4; rw [← HPL.out, HND1.out]; rfl)
                      have HSMA : Hid (PL.length < 100000) := Lib.hid (by have := HLN1.out; have := H16.out; omega)
                      clear eP hPL
                      go_upto_block 8 with (fail)
                      clear dQ
                      go_wp2_with fail
                      go_loopw [13] (fun i wr => ∃ (a : Nat) (vr : Value), a ≤ q ∧ i = .int .i64 (a : Int) ∧ Lg wr H0 F 0 0 0 (.slice (some ⟨pn, 0, none⟩) (PL.length + 1) cn) vs vr (.slice none 0 0) (.slice none 0 0) PL PL (refsP L PL a) [] [] ∧ (∀ (i : Nat) (s : Ob), i < a → L[i]? = some s → s.R.all (fun r => decide (numP PL r.name ≠ 0)) = true) ∧ (refsP L PL a).length ≤ 64 * a ∧ Chg [] V1 wr) (fun i _ => q - (intOf i).toNat)
                      case atStart => exact ⟨0, _, Nat.zero_le _, rfl, by rw [refsP_zero]; exact HLG1.out, fun i s hi => by omega, by rw [refsP_zero]; exact Nat.zero_le _, HCH1.out⟩
                      case round =>
                        obtain ⟨a, vr1, ha, rfl, hlg, hnm, hln, hch⟩ := hrel
                        have HJ6 := Lib.hid ha
                        have HLG2 := Lib.hid hlg
                        have HNM2 := Lib.hid hnm
                        have HLN2 := Lib.hid hln
                        have HCH2 := Lib.hid hch
                        clear ha hlg hnm hln hch
                        by_cases hjn : a < q
                        · skip
                          as_aux_lemma =>
                            have HJN := Lib.hid hjn
                            have dJ : (a : Int) < (q : Int) := by omega
                            have HWJ := Lib.hid (wrapK a (by have := H16.out; omega))
                            obtain ⟨s, hs⟩ : ∃ s, L[a]? = some s := ⟨_, List.getElem?_eq_getElem (by rw [HN.out]; exact hjn)⟩
                            obtain ⟨t, ht⟩ : ∃ s, T[a]? = some s := ⟨_, List.getElem?_eq_getElem (by rw [HT.out]; exact hjn)⟩
                            have HS2 := Lib.hid hs
                            have HRS := Lib.hid (HSR.out s (List.mem_of_getElem? hs))
                            have HOK : Hid (∀ V, Chg [] V1 V → ObOk V s) := Lib.hid fun V hV => HAV.out V hV s (List.mem_of_getElem? hs)
                            have HRB : Hid (∀ V, Chg [] V1 V → RbOk V s t) := Lib.hid fun V hV => HBV.out V hV a s t hs ht
                            have HC3 : Hid (∀ V, Chg [] V1 V → V.cell? ⟨b, o + a * 5 + 4, none⟩ = some (.slice t.pr s.nr t.cr)) := Lib.hid fun V hV => HSV.out V hV a s t hs ht 4 _ rfl
                            have HFN : Hid (s.R.length = s.nr) := Lib.hid (HOK.out _ HCH2.out).Rn
                            have HFL2 : Hid (s.nr ≤ 64 ∧ s.R.all (rfB s) = true) := Lib.hid (by
                              have h := HRS.out
                              unfold rightB at h
                              rw [Bool.and_eq_true, Bool.and_eq_true] at h
                              have h2 := h.1.1
                              unfold baseB at h2
                              rw [decide_eq_true_eq] at h2
                              exact ⟨by omega, h.2⟩)
                            clear hs ht hjn
                            go_upto_block 10 with (fail)
                            clear dJ
                            go_wp2_with fail
                            go_loopw [14] (fun i wr => ∃ (k : Nat) (vr : Value), k ≤ s.nr ∧ i = .int .i64 (k : Int) ∧ Lg wr H0 F 0 0 0 (.slice (some ⟨pn, 0, none⟩) (PL.length + 1) cn) vs vr (.slice none 0 0) (.slice none 0 0) PL PL (refsP L PL a ++ refsI L PL a s k) [] [] ∧ (∀ (i : Nat) (r : Rf), i < k → s.R[i]? = some r → numP PL r.name ≠ 0) ∧ (refsP L PL a ++ refsI L PL a s k).length ≤ 64 * a + k ∧ Chg [] V1 wr) (fun i _ => s.nr - (intOf i).toNat)
                            case atStart => exact ⟨0, _, Nat.zero_le _, rfl, by rw [refsI_zero, List.append_nil]; exact HLG2.out, fun i r hi => by omega, by rw [refsI_zero, List.append_nil]; exact HLN2.out, HCH2.out⟩
                            case round =>
                              obtain ⟨k, vr, hk, rfl, hlg, hnm, hln, hch⟩ := hrel
                              have HK := Lib.hid hk
                              have HLG3 := Lib.hid hlg
                              have HNM4 := Lib.hid hnm
                              have HLN3 := Lib.hid hln
                              have HCH3 := Lib.hid hch
                              obtain ⟨pf, hpe⟩ : ∃ p, p = t.pr := ⟨_, rfl⟩
                              have c3 : wr.cell? ⟨b, o + a * 5 + 4, none⟩ = some (.slice pf s.nr t.cr) := by rw [hpe]; exact HC3.out wr HCH3.out
                              have HPF : Hid (0 < s.nr → pf = some ⟨t.br, 0, none⟩) := Lib.hid (by rw [hpe]; exact (HRB.out wr HCH3.out).Rp)
                              have dJq : (a : Int) < (q : Int) := by have := HJN.out; omega
                              have dJq2 : a < q := HJN.out
                              clear hk hlg hnm hln hch hpe
                              by_cases hkn : k < s.nr
                              · have HKN := Lib.hid hkn
                                have dK : (k : Int) < (s.nr : Int) := by omega
                                have dK2 : k < s.nr := hkn
                                have HWK := Lib.hid (wrapK k (by have := HFL2.out.1; omega))
                                obtain ⟨d, hd⟩ : ∃ d, s.R[k]? = some d := ⟨_, List.getElem?_eq_getElem (by rw [HFN.out]; exact hkn)⟩
                                have HD := Lib.hid hd
                                have HDB : Hid (0 ≤ d.sec ∧ d.sec ≤ 1 ∧ d.at_ + 4 ≤ sizeO s d.sec) := Lib.hid (by
                                  have h := List.all_eq_true.1 HFL2.out.2 d (List.mem_of_getElem? hd)
                                  unfold rfB at h
                                  rw [decide_eq_true_eq] at h
                                  exact ⟨h.1, h.2.1, h.2.2.2.2.2⟩)
                                obtain ⟨z, hz⟩ : ∃ z : Nat, d.sec = (z : Int) := ⟨d.sec.toNat, by have := HDB.out; omega⟩
                                have HZ := Lib.hid hz
                                have HZ3 : Hid (z ≤ 2) := Lib.hid (by have := HDB.out; omega)
                                have HSC : Hid (∀ (i : Nat) (u : Value), (RrC d)[i]? = some u → wr.cell? ⟨t.br, k * 5 + i, none⟩ = some u) := Lib.hid ((HRB.out _ HCH3.out).Ra k d hd)
                                obtain rfl := HPF.out (by omega)
                                obtain ⟨Z2, hZ2⟩ : ∃ Z2, Z2 = wr.alloc (.cells (RrC d).toArray 89) := ⟨_, rfl⟩
                                obtain ⟨Bd, hBd⟩ : ∃ b, b = wr.heap.size := ⟨_, rfl⟩
                                have hc2 : Chg [] wr Z2 := by rw [hZ2]; exact (Chg.refl _ _).alloc _
                                have hr2 : Z2.row? Bd = some (RrC d).toArray := by rw [hZ2]; exact row_alloc_at _ _ _ _ hBd
                                have HRD := Lib.hid hr2
                                have HC2' := Lib.hid (HCH3.out.trans hc2)
                                have HLG4 := Lib.hid (HLG3.out.keep hc2)
                                have HZ2 := Lib.hid hZ2
                                have HBd := Lib.hid hBd
                                obtain ⟨Rs, hRs⟩ : ∃ P, P = refsP L PL a ++ refsI L PL a s k := ⟨_, rfl⟩
                                rw [← hRs] at HLG4 HLN3
                                have HRs := Lib.hid hRs
                                have e0 : Z2.cell? ⟨Bd, 3, none⟩ = some (.string d.name) := by rw [row_cell hr2]; rfl
                                clear hd hZ2 hBd hc2 hr2 hkn hz hRs HLG3
                                go_upto_region 36 with (first | (refine wpList_load_part a89 (RrC d) rfl _ rfl rfl rfl HSC.out ?_) | (refine wpList_store_new a89 _ _ rfl rfl rfl rfl rfl rfl rfl rfl ?_))
                                rw [← HZ2.out, ← HBd.out]
                                clear HZ2 HBd dK dK2 c3 dJq dJq2
                                have HFI := Lib.hid (find_any (w := Z2) (b := pn) (cap := cn) (P := PL) d.name (fun j t ht => cellsAt (HLG4.out.own.own 0 (by decide)) rfl j (.string t) (by show (nmsV PL)[j]? = _; unfold nmsV; rw [List.getElem?_map, ht]; rfl)) HSMA.out)
                                go_wp2_with fail
                                refine HFI.out.mono ?_
                                rintro e w6 ⟨rfl, hw6⟩
                                obtain rfl := hw6.symm
                                clear hw6
                                obtain ⟨u, hu⟩ : ∃ u, u = numP PL d.name := ⟨_, rfl⟩
                                rw [← hu]
                                have HU := Lib.hid hu
                                clear hu
                                by_cases hx : u = 0
                                · have HX0 : Hid (numP PL d.name = 0) := Lib.hid (by rw [← HU.out]; exact hx)
                                  subst hx
                                  have r2 := HR2.out Z2 (HCH.out.trans HC2'.out)
                                  go_wp2_with (refine wpList_store_row a38 _ _ rfl rfl rfl rfl rfl r2 rfl rfl rfl ?_)
                                  refine bodyPost_ret (ret_cell2 rfl a38 rfl (by rw [row_setRow, if_pos rfl, r2]; rfl) rfl rfl) rfl ?_
                                  exact rpost_bad (k := 13) (by decide) (by
                                    unfold errL
                                    rw [HE1.out, HE2.out, HE3.out, HE4.out, show e5 L = true by
                                      unfold e5
                                      rw [all_bad HS2.out (all_bad HD.out (by rw [decide_eq_false_iff_not]; exact fun h => h (by rw [← HPL.out]; exact HX0.out)))]
                                      rfl]
                                    rfl) ((HCA.out.trans HC2'.out).setRow (.inr HC0.out.2.1) _)
                                · have HX0 : Hid (numP PL d.name ≠ 0) := Lib.hid (by rw [← HU.out]; exact hx)
                                  have dz : ((u : Int) == 0) = false := beq_eq_false_iff_ne.2 (by omega)
                                  obtain ⟨x1, hx1e⟩ : ∃ x, x = bsF L z + sumO L (z : Int) a := ⟨_, rfl⟩
                                  obtain ⟨x, hxe⟩ : ∃ x, x = x1 + d.at_ := ⟨_, rfl⟩
                                  have HXE : Hid (x = bsF L d.sec.toNat + sumO L d.sec a + d.at_) := Lib.hid (by rw [hxe, hx1e, HZ.out]; rfl)
                                  have HDL : Hid (d.at_ ≤ 16384) := Lib.hid (by
                                    have h1 := HDB.out.2.2
                                    have h2 : sizeO s d.sec ≤ 16384 := by
                                      obtain ⟨a, b, c⟩ := HSZ.out s (List.mem_of_getElem? HS2.out)
                                      unfold sizeO
                                      split; exact a; split; exact b; split; exact c; omega
                                    omega)
                                  have hb9 : x1 + d.at_ < 9000000000000000000 := by
                                    have h1 := HBL2.out z
                                    have h2 := HSM.out (z : Int) a (by have := H16.out; have := HJN.out; omega)
                                    have h3 := HDL.out
                                    rw [hx1e]
                                    omega
                                  have hw9 : wrap64 ((x1 : Int) + (d.at_ : Int)) = (x : Int) := by rw [hxe]; exact w64add hb9
                                  have HW9 := Lib.hid hw9
                                  have HCW : Hid (Chg [] Z2 Z2.drew) := Lib.hid (Chg.refl _ _).drew
                                  obtain ⟨pr, cr, rfl, -⟩ := own_form (show Z2.ownsRow H0 45 4 vr Rs.length (Rs.flatMap RkC) from HLG4.out.own.own 2 (by decide))
                                  have s0 : Hid (Z2.drew.cell? ⟨F, 2, none⟩ = some (.slice pr Rs.length cr)) := Lib.hid (show Z2.cell? _ = _ by rw [row_cell HLG4.out.row]; rfl)
                                  have s1 : Hid (Z2.drew.cell? ⟨Bd, 0, none⟩ = some (.int .i64 (z : Int))) := Lib.hid (show Z2.cell? _ = _ by rw [row_cell HRD.out, ← HZ.out]; rfl)
                                  have s2 : Hid (Z2.drew.cell? ⟨Bd, 1, none⟩ = some (.int .i64 (d.at_ : Int))) := Lib.hid (show Z2.cell? _ = _ by rw [row_cell HRD.out]; rfl)
                                  have s3 : Hid (Z2.drew.cell? ⟨Bd, 2, none⟩ = some (.int .i64 d.ty)) := Lib.hid (show Z2.cell? _ = _ by rw [row_cell HRD.out]; rfl)
                                  have s4 : Hid (Z2.drew.cell? ⟨Bd, 4, none⟩ = some (.int .i64 (d.add : Int))) := Lib.hid (show Z2.cell? _ = _ by rw [row_cell HRD.out]; rfl)
                                  have HPC := Lib.hid (HPLA.out Z2.drew (HC2'.out.trans HCW.out) a z HJN.out HZ3.out)
                                  rw [← hx1e] at HPC
                                  clear hxe hx1e hb9 hw9 hx
                                  go_upto_region 39 with (fail)
                                  clear e0 dz
                                  refine wp_region_C (fun w' => w'.cell? ⟨F, 2, none⟩ = some (.slice pr Rs.length cr) ∧ w'.cell? ⟨Bd, 0, none⟩ = some (.int .i64 (z : Int)) ∧ w'.cell? ⟨Bd, 1, none⟩ = some (.int .i64 (d.at_ : Int)) ∧ w'.cell? ⟨Bd, 2, none⟩ = some (.int .i64 d.ty) ∧ w'.cell? ⟨Bd, 4, none⟩ = some (.int .i64 (d.add : Int))) [(0, 0), (1, 1), (2, 0), (3, 0), (4, 0), (5, 1), (7, 0), (8, 1), (10, 0), (11, 1), (12, 0), (13, 0), (14, 1), (6, 2), (9, 0), (15, 0), (16, 2), (17, 3), (18, 0), (19, 3)] rfl (by kernel_rfl) ?hSR ?hTR
                                  case hSR => exact ⟨s0.out, s1.out, s2.out, s3.out, s4.out⟩
                                  refine wpT_pureD (v := ?_) (some 165) rfl rfl (by rfl) (fun w' => ?_) ?_
                                  rotate_left
                                  · (go_simp; try with_reducible rfl)
                                  try simp only [Act.put, List.setIfInBounds_toArray, List.set_cons_zero, List.set_cons_succ]
                                  refine wpT_readD (v := ?_) (some 166) rfl rfl (by rfl) (fun w' hw => ?_) ?_
                                  rotate_left
                                  · (obtain ⟨q0, q1, q2, q3, q4⟩ := hw; go_simp; try with_reducible rfl)
                                  try simp only [Act.put, List.setIfInBounds_toArray, List.set_cons_zero, List.set_cons_succ]
                                  refine wpT_pureD (v := ?_) (some 167) rfl rfl (by rfl) (fun w' => ?_) ?_
                                  rotate_left
                                  · (go_simp; try with_reducible rfl)
                                  try simp only [Act.put, List.setIfInBounds_toArray, List.set_cons_zero, List.set_cons_succ]
                                  refine wpT_pureD (v := ?_) (some 168) rfl rfl (by rfl) (fun w' => ?_) ?_
                                  rotate_left
                                  · (go_simp; try with_reducible rfl)
                                  try simp only [Act.put, List.setIfInBounds_toArray, List.set_cons_zero, List.set_cons_succ]
                                  refine wpT_pureD (v := ?_) (some 169) rfl rfl (by rfl) (fun w' => ?_) ?_
                                  rotate_left
                                  · (go_simp; try with_reducible rfl)
                                  try simp only [Act.put, List.setIfInBounds_toArray, List.set_cons_zero, List.set_cons_succ]
                                  refine wpT_readD (v := ?_) (some 170) rfl rfl (by rfl) (fun w' hw => ?_) ?_
                                  rotate_left
                                  · (obtain ⟨q0, q1, q2, q3, q4⟩ := hw; go_simp; try with_reducible rfl)
                                  try simp only [Act.put, List.setIfInBounds_toArray, List.set_cons_zero, List.set_cons_succ]
                                  refine wpT_pureD (v := ?_) (some 172) rfl rfl (by rfl) (fun w' => ?_) ?_
                                  rotate_left
                                  · (go_simp; try with_reducible rfl)
                                  try simp only [Act.put, List.setIfInBounds_toArray, List.set_cons_zero, List.set_cons_succ]
                                  refine wpT_readD (v := ?_) (some 173) rfl rfl (by rfl) (fun w' hw => ?_) ?_
                                  rotate_left
                                  · (obtain ⟨q0, q1, q2, q3, q4⟩ := hw; go_simp; try with_reducible rfl)
                                  try simp only [Act.put, List.setIfInBounds_toArray, List.set_cons_zero, List.set_cons_succ]
                                  refine wpT_pureD (v := ?_) (some 175) rfl rfl (by rfl) (fun w' => ?_) ?_
                                  rotate_left
                                  · (go_simp; try with_reducible rfl)
                                  try simp only [Act.put, List.setIfInBounds_toArray, List.set_cons_zero, List.set_cons_succ]
                                  refine wpT_readD (v := ?_) (some 176) rfl rfl (by rfl) (fun w' hw => ?_) ?_
                                  rotate_left
                                  · (obtain ⟨q0, q1, q2, q3, q4⟩ := hw; go_simp; try with_reducible rfl)
                                  try simp only [Act.put, List.setIfInBounds_toArray, List.set_cons_zero, List.set_cons_succ]
                                  refine wpT_pureD (v := ?_) (some 177) rfl rfl (by rfl) (fun w' => ?_) ?_
                                  rotate_left
                                  · (go_simp; try with_reducible rfl)
                                  try simp only [Act.put, List.setIfInBounds_toArray, List.set_cons_zero, List.set_cons_succ]
                                  refine wpT_pureD (v := ?_) (some 178) rfl rfl (by rfl) (fun w' => ?_) ?_
                                  rotate_left
                                  · (go_simp; try with_reducible rfl)
                                  try simp only [Act.put, List.setIfInBounds_toArray, List.set_cons_zero, List.set_cons_succ]
                                  refine wpT_readD (v := ?_) (some 179) rfl rfl (by rfl) (fun w' hw => ?_) ?_
                                  rotate_left
                                  · (obtain ⟨q0, q1, q2, q3, q4⟩ := hw; go_simp; try with_reducible rfl)
                                  try simp only [Act.put, List.setIfInBounds_toArray, List.set_cons_zero, List.set_cons_succ]
                                  refine wpT_eff rfl (by rfl) (fun K hK => ?_)
                                  go_wp2_with fail
                                  refine HPC.out.mono ?_
                                  rintro e w7 ⟨rfl, hc7⟩
                                  have HC7 := Lib.hid hc7
                                  clear hc7
                                  go_wp2_with fail
                                  refine hK _ _ ⟨keepc s0.out HC7.out (by simp), keepc s1.out HC7.out (by simp), keepc s2.out HC7.out (by simp), keepc s3.out HC7.out (by simp), keepc s4.out HC7.out (by simp)⟩ ?_
                                  clear hK K
                                  try simp only [Act.put, List.setIfInBounds_toArray, List.set_cons_zero, List.set_cons_succ]
                                  refine wpT_pureD (v := ?_) (some 174) rfl rfl (by rfl) (fun w' => ?_) ?_
                                  rotate_left
                                  · (go_simp; try with_reducible rfl)
                                  try simp only [Act.put, List.setIfInBounds_toArray, List.set_cons_zero, List.set_cons_succ]
                                  refine wpT_pureD (v := ?_) (some 180) rfl rfl (by rfl) (fun w' => ?_) ?_
                                  rotate_left
                                  · (go_simp; try with_reducible rfl)
                                  try simp only [Act.put, List.setIfInBounds_toArray, List.set_cons_zero, List.set_cons_succ]
                                  refine wpT_eff rfl (by rfl) (fun K hK => ?_)
                                  go_wp2_with fail
                                  rw [HW9.out]
                                  have HLW := Lib.hid ((HLG4.out.keep (HCW.out.trans HC7.out)))
                                  obtain ⟨w8, hw8⟩ : ∃ w8, w8 = w7.alloc (.cells (RkC ⟨x, d.ty, u, d.add⟩).toArray 45) := ⟨_, rfl⟩
                                  have hw8' : w8 = w7.alloc (.cells #[.int .i64 (x : Int), .int .i64 d.ty, .int .i64 (u : Int), .int .i64 (d.add : Int)] 45) := hw8
                                  obtain ⟨g, hg⟩ : ∃ g, g = w7.heap.size := ⟨_, rfl⟩
                                  rw [← hw8', ← hg]
                                  have hcc : Chg [] w7 w8 := by rw [hw8]; exact (Chg.refl _ _).alloc _
                                  have HL8 := Lib.hid (HLW.out.keep hcc)
                                  have HG2 : Hid (w8.row? g = some (RkC ⟨x, d.ty, u, d.add⟩).toArray) := Lib.hid (by rw [hw8]; exact row_alloc_at _ _ _ _ hg)
                                  have HC8 : Hid (Chg [] V1 w8) := Lib.hid ((HC2'.out.trans (HCW.out.trans HC7.out)).trans hcc)
                                  refine hK _ _ ⟨keepc (keepc s0.out HC7.out (by simp)) hcc (by simp), keepc (keepc s1.out HC7.out (by simp)) hcc (by simp), keepc (keepc s2.out HC7.out (by simp)) hcc (by simp), keepc (keepc s3.out HC7.out (by simp)) hcc (by simp), keepc (keepc s4.out HC7.out (by simp)) hcc (by simp)⟩ ?_
                                  clear hw8 hw8' hg hcc hK K
                                  try simp only [Act.put, List.setIfInBounds_toArray, List.set_cons_zero, List.set_cons_succ]
                                  refine wpT_brk rfl (by rfl) (fun K hK => ?_)
                                  refine (app_structL rfl _ _ 35 45 _ 4 32 rfl Try.underlying35 info45 rfl (by decide) (by decide) H0 (.slice pr Rs.length cr) Rs.length (Rs.flatMap RkC) rfl (HL8.out.own.own 2 (by decide)) g (RkC ⟨x, d.ty, u, d.add⟩) rfl rfl HG2.out (by simp [RkC, Value.oneCell']) (by have := HLN3.out; have := H16.out; have := HJN.out; have := HKN.out; have := HFL2.out.1; omega) (by have := HC8.out.size; have := HC2.out.2; have := HC2.out.1.size; omega) ?_)
                                  intro v9 w9 hx1 hx2 hx3
                                  obtain ⟨p5, c5, rfl, -⟩ := own_form hx1
                                  have HL9 := Lib.hid (HL8.out.rel (r := ⟨x, d.ty, u, d.add⟩) hx1 hx2 hx3)
                                  have HC9 : Hid (Chg [] V1 (w9.setCell ⟨F, 2, none⟩ (.slice p5 (Rs.length + 1) c5))) := Lib.hid (chg_newer HC8.out HL9.out.2 (by
                                    intro g hg
                                    rw [List.mem_cons, Option.mem_toList] at hg
                                    have h8 := HC2.out.1.size
                                    have h9 := HC2.out.2
                                    rcases hg with e | e
                                    · have := HL8.out.hF; omega
                                    · have := HL8.out.own.ge (i := 2) (by decide) g e; omega))
                                  have hr3 := ((grown_chg hx2).row (row_lt HL8.out.row) (by rw [Option.mem_toList]; intro e; exact (HL8.out.own.ne 2 (by decide) F e).1 rfl)).trans HL8.out.row
                                  have fc : w9.cell? ⟨F, 2, none⟩ = some (.slice pr Rs.length cr) := by rw [row_cell hr3]; rfl
                                  have ff : w9.frozen? ⟨F, 2, none⟩ = false := row_free hr3 _
                                  clear hx1 hx2 hx3 hr3
                                  go_wp2_with fail
                                  refine wpT_pureD (v := ?_) (some 183) rfl rfl (by rfl) (fun w' => ?_) ?_
                                  rotate_left
                                  · (go_simp; try with_reducible rfl)
                                  try simp only [Act.put, List.setIfInBounds_toArray]
                                  refine wpT_brk rfl (by rfl) (fun K hK => ?_)
                                  go_wp2_with fail
                                  refine wpT_end ?_
                                  obtain ⟨wz, hwz⟩ : ∃ w4, w4 = w9.setCell ⟨F, 2, none⟩ (.slice p5 (Rs.length + 1) c5) := ⟨_, rfl⟩
                                  rw [← hwz] at HL9 HC9
                                  rw [← hwz]
                                  clear hwz fc ff
                                  go_wp2_with fail
                                  case roundEnd =>
                                    have e : refsP L PL a ++ refsI L PL a s (k + 1) = Rs ++ [⟨x, d.ty, u, d.add⟩] := by rw [refsI_succ HD.out, ← List.append_assoc, ← HRs.out, ← HXE.out, ← HU.out]
                                    refine ⟨⟨k + 1, .slice p5 (Rs.length + 1) c5, HKN.out, by rw [HWK.out], ?_, ?_, ?_, HC9.out⟩, by rw [HWK.out]; simp only [intOf, Int.toNat_natCast]; have := HKN.out; omega⟩
                                    · rw [e]; exact HL9.out.1
                                    · intro i r hi hr
                                      by_cases e : i = k
                                      · subst e; rw [HD.out] at hr; obtain rfl := Option.some.inj hr; exact HX0.out
                                      · exact HNM4.out i r (by omega) hr
                                    · rw [e, List.length_append]; have := HLN3.out; simp; omega
                              · have dK : ¬ (k : Int) < (s.nr : Int) := by omega
                                obtain rfl : k = s.nr := by have := HK.out; omega
                                clear hkn
                                go_wp2_with fail
                                case roundEnd =>
                                  have e : refsP L PL (a + 1) = refsP L PL a ++ refsI L PL a s s.nr := by rw [refsP_succ HS2.out, HFN.out]
                                  refine ⟨⟨a + 1, _, HJN.out, by rw [HWJ.out], by rw [e]; exact HLG3.out, ?_, by rw [e]; have := HLN3.out; have := HFL2.out.1; omega, HCH3.out⟩, by rw [HWJ.out]; simp only [intOf, Int.toNat_natCast]; have := HJN.out; omega⟩
                                  intro i s' hi hs'
                                  by_cases e2 : i = a
                                  · subst e2
                                    rw [HS2.out] at hs'
                                    obtain rfl := Option.some.inj hs'
                                    exact all_good fun q r hr => by
                                      rw [decide_eq_true_eq]
                                      exact HNM4.out q r (by have := (List.getElem?_eq_some_iff.1 hr).1; have := HFN.out; omega) hr
                                  · exact HNM2.out i s' (by omega) hs'
                        · skip
                          obtain rfl : a = q := by have := HJ6.out; omega
                          have dJ : ¬ (a : Int) < (a : Int) := by omega
                          clear hjn
                          obtain ⟨Rs, hRs⟩ : ∃ R, R = refsP L PL a := ⟨_, rfl⟩
                          rw [← hRs] at HLG2 HLN2
                          have HRs : Hid (refsL L = Rs) := Lib.hid (by rw [hRs, HPL.out]; unfold refsL; rw [HN.out])
                          have HE5 : Hid (e5 L = false) := Lib.hid (by
                            unfold e5
                            rw [← HPL.out, all_good fun i x hx => HNM2.out i x (by have := (List.getElem?_eq_some_iff.1 hx).1; have := HN.out; omega) hx]
                            rfl)
                          have HFI := Lib.hid (find_any (w := wr) (b := pn) (cap := cn) (P := PL) startB (fun j t ht => cellsAt (HLG2.out.own.own 0 (by decide)) rfl j (.string t) (by show (nmsV PL)[j]? = _; unfold nmsV; rw [List.getElem?_map, ht]; rfl)) HSMA.out)
                          clear hRs
                          go_upto_region 40 with (fail)
                          clear dJ
                          go_wp2_with fail
                          refine HFI.out.mono ?_
                          rintro e w6 ⟨rfl, hw6⟩
                          obtain rfl := hw6.symm
                          clear hw6
                          obtain ⟨z, hz⟩ : ∃ z, z = numP PL startB := ⟨_, rfl⟩
                          rw [← hz]
                          by_cases hz0 : z = 0
                          · have HZ0 : Hid (numP PL startB = 0) := Lib.hid (by rw [← hz]; exact hz0)
                            clear hz
                            subst hz0
                            have r2 := HR2.out wr (HCH.out.trans HCH2.out)
                            go_wp2_with (refine wpList_store_row a38 _ _ rfl rfl rfl rfl rfl r2 rfl rfl rfl ?_)
                            refine bodyPost_ret (ret_cell2 rfl a38 rfl (by rw [row_setRow, if_pos rfl, r2]; rfl) rfl rfl) rfl ?_
                            exact rpost_bad (k := 13) (by decide) (by unfold errL; rw [HE1.out, HE2.out, HE3.out, HE4.out, HE5.out, show e6 L = true by unfold e6; rw [← HPL.out, HZ0.out]; rfl]; rfl) ((HCA.out.trans HCH2.out).setRow (.inr HC0.out.2.1) _)
                          · have HZ0 := Lib.hid hz0
                            have HZ1 := Lib.hid hz
                            have HE6 : Hid (e6 L = false) := Lib.hid (by unfold e6; rw [← HPL.out, ← hz]; exact decide_eq_false hz0)
                            have HE7 : Hid (e7 L = decide (64 < PL.length + 1 ∨ 64 < Rs.length)) := Lib.hid (by unfold e7; rw [← HPL.out, HRs.out])
                            have dz : ((z : Int) == 0) = false := beq_eq_false_iff_ne.2 (by omega)
                            clear hz hz0
                            go_upto_region 43 with (fail)
                            clear dz
                            obtain ⟨ps, cs, rfl, hps⟩ := own_form (show wr.ownsRow H0 3 1 vs (PL.length + 1) (symR PL) from HLG2.out.own.own 1 (by decide))
                            obtain ⟨gs, rfl, -⟩ := hps (by omega)
                            obtain ⟨pr, cr, rfl, -⟩ := own_form (show wr.ownsRow H0 45 4 vr1 Rs.length (Rs.flatMap RkC) from HLG2.out.own.own 2 (by decide))
                            have n3 : wr.cell? ⟨F, 1, none⟩ = some (.slice (some ⟨gs, 0, none⟩) (PL.length + 1) cs) := by rw [row_cell HLG2.out.row]; rfl
                            have n2 : wr.cell? ⟨F, 2, none⟩ = some (.slice pr Rs.length cr) := by rw [row_cell HLG2.out.row]; rfl
                            clear hps
                            by_cases h1 : 64 < PL.length + 1
                            · have d1 : (64 : Int) < ((PL.length + 1 : Nat) : Int) := by omega
                              have HE7' : Hid (e7 L = true) := Lib.hid (by rw [HE7.out]; exact decide_eq_true (by first | exact Or.inl h1 | exact Or.inr h2))
                              have r2 := HR2.out wr (HCH.out.trans HCH2.out)
                              go_wp2_with (refine wpList_store_row a38 _ _ rfl rfl rfl rfl rfl r2 rfl rfl rfl ?_)
                              refine bodyPost_ret (ret_cell2 rfl a38 rfl (by rw [row_setRow, if_pos rfl, r2]; rfl) rfl rfl) rfl ?_
                              exact rpost_bad (k := 2) (by decide) (by unfold errL; rw [HE1.out, HE2.out, HE3.out, HE4.out, HE5.out, HE6.out, HE7'.out]; rfl) ((HCA.out.trans HCH2.out).setRow (.inr HC0.out.2.1) _)
                            · have d1 : ¬ (64 : Int) < ((PL.length + 1 : Nat) : Int) := by omega
                              by_cases h2 : 64 < Rs.length
                              · have d2 : (64 : Int) < (Rs.length : Int) := by omega
                                have HE7' : Hid (e7 L = true) := Lib.hid (by rw [HE7.out]; exact decide_eq_true (by first | exact Or.inl h1 | exact Or.inr h2))
                                have r2 := HR2.out wr (HCH.out.trans HCH2.out)
                                go_wp2_with (refine wpList_store_row a38 _ _ rfl rfl rfl rfl rfl r2 rfl rfl rfl ?_)
                                refine bodyPost_ret (ret_cell2 rfl a38 rfl (by rw [row_setRow, if_pos rfl, r2]; rfl) rfl rfl) rfl ?_
                                exact rpost_bad (k := 2) (by decide) (by unfold errL; rw [HE1.out, HE2.out, HE3.out, HE4.out, HE5.out, HE6.out, HE7'.out]; rfl) ((HCA.out.trans HCH2.out).setRow (.inr HC0.out.2.1) _)
                              · have d2 : ¬ (64 : Int) < (Rs.length : Int) := by omega
                                have HE7' : Hid (e7 L = false) := Lib.hid (by rw [HE7.out]; exact decide_eq_false (by rintro (h | h); exact h1 h; exact h2 h))
                                go_upto_region 45 with (fail)
                                clear n2 d1 d2 h1 h2
                                obtain ⟨y, hy⟩ := symC_get HZ1.out HZ0.out
                                have HY := Lib.hid hy
                                have cz : wr.cell? ⟨gs, z, none⟩ = some (.int .i64 (y : Int)) := cellsAt (show wr.ownsRow H0 3 1 _ (PL.length + 1) (symR PL) from HLG2.out.own.own 1 (by decide)) rfl z _ (symR_of hy)
                                have iz2 : z < PL.length + 1 := by have := numP_le startB PL; have := HZ1.out; omega
                                have iz : (z : Int) < ((PL.length + 1 : Nat) : Int) := by omega
                                have n0 : wr.cell? ⟨F, 0, none⟩ = some (.int .i64 0) := by rw [row_cell HLG2.out.row]; rfl
                                have f0 : wr.frozen? ⟨F, 0, none⟩ = false := row_free HLG2.out.row _
                                have HXF := Lib.hid (HLG2.out.setx y)
                                clear hy
                                go_upto_region 46 with (fail)
                                clear n3 cz iz iz2 n0 f0
                                obtain ⟨X, hX⟩ : ∃ X, X = wr.setCell ⟨F, 0, none⟩ (.int .i64 (y : Int)) := ⟨_, rfl⟩
                                rw [← hX] at HXF
                                rw [← hX]
                                have HCX : Hid (Chg [] V1 X) := Lib.hid (by
                                  rw [hX]
                                  exact chg_newer HCH2.out (set_chg _ _ _ _) (by intro g hg; rw [List.mem_singleton] at hg; subst hg; have := HLG2.out.hF; have := HC2.out.2; have := HC2.out.1.size; omega))
                                clear hX
                                have HPC := Lib.hid (HPLA.out X HCX.out 0 1 (by have := H16.out; omega) (by decide))
                                rw [show bsF L 1 + sumO L ((1 : Nat) : Int) 0 = bsF L 1 by rw [sumO_zero]; rfl] at HPC
                                obtain ⟨b1, hb1⟩ : ∃ x, x = bsF L 1 := ⟨_, rfl⟩
                                rw [← hb1] at HPC
                                have HB1 := Lib.hid hb1
                                clear hb1
                                go_wp2_with fail
                                refine (show Calls Try.prog 23 #[.slice (some ⟨b, o, none⟩) a c, .int .i64 0, .int .i64 1] X (fun e w' => e = .returned (.int .i64 (b1 : Int)) ∧ Chg [] X w') from HPC.out).mono ?_
                                rintro e w7 ⟨rfl, hc7⟩
                                have HL7 := Lib.hid (HXF.out.keep hc7)
                                have HC7 := Lib.hid (HCX.out.trans hc7)
                                clear hc7
                                have n0 : w7.cell? ⟨F, 5, none⟩ = some (.int .i64 0) := by rw [row_cell HL7.out.row]; rfl
                                have f0 : w7.frozen? ⟨F, 5, none⟩ = false := row_free HL7.out.row _
                                go_upto_region 47 with (fail)
                                clear n0 f0
                                have HY7 := Lib.hid (HL7.out.seta b1)
                                obtain ⟨Y, hY⟩ : ∃ Y, Y = w7.setCell ⟨F, 5, none⟩ (.int .i64 (b1 : Int)) := ⟨_, rfl⟩
                                rw [← hY] at HY7
                                rw [← hY]
                                have HCY : Hid (Chg [] V1 Y) := Lib.hid (by
                                  rw [hY]
                                  exact chg_newer HC7.out (set_chg _ _ _ _) (by intro g hg; rw [List.mem_singleton] at hg; subst hg; have := HLG2.out.hF; have := HC2.out.2; have := HC2.out.1.size; omega))
                                have HSC2 : Hid (∀ s ∈ L, s.C.length ≤ 16384 ∧ s.D.length ≤ 16384) := Lib.hid fun s hs => by
                                  have h := HSZ.out s hs
                                  have h2 := HAV.out V1 (Chg.refl _ _) s hs
                                  have := h2.Cn
                                  have := h2.Dn
                                  omega
                                clear hY
                                go_wp2_with fail
                                go_loopw [18] (fun i wr => ∃ (k : Nat) (vc vd : Value), k ≤ a ∧ i = .int .i64 (k : Int) ∧ Lg wr H0 F y b1 (sumO L 1 k + sumO L 2 k) (.slice (some ⟨pn, 0, none⟩) (PL.length + 1) cn) (.slice (some ⟨gs, 0, none⟩) (PL.length + 1) cs) (.slice pr Rs.length cr) vc vd PL PL Rs (codeB (L.take k)) (dataB (L.take k)) ∧ Chg [] V1 wr) (fun i _ => a - (intOf i).toNat)
                                case atStart => exact ⟨0, _, _, Nat.zero_le _, rfl, by rw [sumO_zero, sumO_zero]; exact HY7.out, HCY.out⟩
                                case round =>
                                  obtain ⟨k, vc, vd, hk, rfl, hlg, hch⟩ := hrel
                                  have HK := Lib.hid hk
                                  have HLG3 := Lib.hid hlg
                                  have HCH3 := Lib.hid hch
                                  clear hk hlg hch
                                  by_cases hkn : k < a
                                  · skip
                                    as_aux_lemma =>
                                      have HKN := Lib.hid hkn
                                      have dK : (k : Int) < (a : Int) := by omega
                                      have dK2 : k < a := hkn
                                      have HWK := Lib.hid (wrapK k (by have := H16.out; omega))
                                      obtain ⟨s, hs⟩ : ∃ s, L[k]? = some s := ⟨_, List.getElem?_eq_getElem (by rw [HN.out]; exact hkn)⟩
                                      obtain ⟨t, ht⟩ : ∃ s, T[k]? = some s := ⟨_, List.getElem?_eq_getElem (by rw [HT.out]; exact hkn)⟩
                                      have HS2 := Lib.hid hs
                                      have HO : Hid (∀ V, Chg [] V1 V → ObOk V s) := Lib.hid fun V hV => HAV.out V hV s (List.mem_of_getElem? hs)
                                      have HSC : Hid (∀ V, Chg [] V1 V → ∀ (i : Nat) (u : Value), (roA s t).toList[i]? = some u → V.cell? ⟨b, o + k * 5 + i, none⟩ = some u) := Lib.hid fun V hV => HSV.out V hV k s t hs ht
                                      have HZZ := Lib.hid (HSC2.out s (List.mem_of_getElem? hs))
                                      have HSS := Lib.hid (HSZ.out s (List.mem_of_getElem? hs))
                                      have HLC := Lib.hid (codeB_le (fun s hs => (HSC2.out s hs).1) k)
                                      have HLD := Lib.hid (dataB_le (fun s hs => (HSC2.out s hs).2) k)
                                      have HCD : Hid (Chg [] V1 wr.drew) := Lib.hid (HCH3.out.trans (Chg.refl _ _).drew)
                                      have HL4 := Lib.hid (HLG3.out.keep (Chg.refl [] wr).drew)
                                      obtain ⟨pc, cc, rfl, -⟩ := own_form (show wr.ownsRow H0 5 1 vc (codeB (L.take k)).length (u8L (codeB (L.take k))) from HLG3.out.own.own 3 (by decide))
                                      obtain ⟨pd, cd, rfl, -⟩ := own_form (show wr.ownsRow H0 5 1 vd (dataB (L.take k)).length (u8L (dataB (L.take k))) from HLG3.out.own.own 4 (by decide))
                                      clear hs ht hkn
                                      go_upto_region 50 with (fail)
                                      clear dK
                                      obtain ⟨spc, hspc⟩ : ∃ x, x = s.pc := ⟨_, rfl⟩
                                      have HSPC := Lib.hid hspc
                                      have c0 : wr.drew.cell? ⟨b, o + k * 5, none⟩ = some (.slice spc s.nc s.cc) := by rw [hspc]; exact HSC.out _ HCD.out 0 _ rfl
                                      have C0 := Lib.hid c0
                                      have C1 : Hid (wr.drew.cell? ⟨F, 3, none⟩ = some (.slice pc (codeB (L.take k)).length cc)) := Lib.hid (by rw [row_cell HL4.out.row]; rfl)
                                      have dK : (k : Int) < (a : Int) := by have := HKN.out; omega
                                      clear c0 hspc
                                      refine wp_region_C (fun w' => w'.cell? ⟨F, 3, none⟩ = some (.slice pc (codeB (L.take k)).length cc) ∧ w'.cell? ⟨b, o + k * 5, none⟩ = some (.slice spc s.nc s.cc)) [(0, 0), (1, 1), (2, 0), (3, 0), (4, 0), (5, 0), (6, 1), (7, 3), (8, 0), (9, 3)] rfl (by kernel_rfl) ?hSC ?hTC
                                      case hSC => exact ⟨C1.out, C0.out⟩
                                      refine wpT_pureD (v := ?_) (some 215) rfl rfl (by rfl) (fun w' => ?_) ?_
                                      rotate_left
                                      · (go_simp; try with_reducible rfl)
                                      try simp only [Act.put, List.setIfInBounds_toArray, List.set_cons_zero, List.set_cons_succ]
                                      refine wpT_readD (v := ?_) (some 216) rfl rfl (by rfl) (fun w' hw => ?_) ?_
                                      rotate_left
                                      · (obtain ⟨q0, q1⟩ := hw; go_simp; try with_reducible rfl)
                                      try simp only [Act.put, List.setIfInBounds_toArray, List.set_cons_zero, List.set_cons_succ]
                                      refine wpT_pureD (v := ?_) (some 217) rfl rfl (by rfl) (fun w' => ?_) ?_
                                      rotate_left
                                      · (go_simp; try with_reducible rfl)
                                      try simp only [Act.put, List.setIfInBounds_toArray, List.set_cons_zero, List.set_cons_succ]
                                      refine wpT_pureD (v := ?_) (some 218) rfl rfl (by rfl) (fun w' => ?_) ?_
                                      rotate_left
                                      · (go_simp; try with_reducible rfl)
                                      try simp only [Act.put, List.setIfInBounds_toArray, List.set_cons_zero, List.set_cons_succ]
                                      refine wpT_pureD (v := ?_) (some 219) rfl rfl (by rfl) (fun w' => ?_) ?_
                                      rotate_left
                                      · (go_simp; try with_reducible rfl)
                                      try simp only [Act.put, List.setIfInBounds_toArray, List.set_cons_zero, List.set_cons_succ]
                                      refine wpT_pureD (v := ?_) (some 220) rfl rfl (by rfl) (fun w' => ?_) ?_
                                      rotate_left
                                      · (go_simp; try with_reducible rfl)
                                      try simp only [Act.put, List.setIfInBounds_toArray, List.set_cons_zero, List.set_cons_succ]
                                      refine wpT_readD (v := ?_) (some 221) rfl rfl (by rfl) (fun w' hw => ?_) ?_
                                      rotate_left
                                      · (obtain ⟨q0, q1⟩ := hw; go_simp; try with_reducible rfl)
                                      try simp only [Act.put, List.setIfInBounds_toArray, List.set_cons_zero, List.set_cons_succ]
                                      refine wpT_brk rfl (by rfl) (fun K hK => ?_)
                                      refine (app_srcL rfl _ _ 36 5 .u8 1 rfl Try.underlying36 info5 (by decide) H0 _ _ (codeB (L.take k)) rfl (show wr.drew.ownsRow H0 5 1 (.slice pc (codeB (L.take k)).length cc) (codeB (L.take k)).length (u8L (codeB (L.take k))) from HL4.out.own.own 3 (by decide)) spc s.nc s.cc s.C rfl (HO.out _ HCD.out).Cn (by rw [HSPC.out]; exact (HO.out _ HCD.out).Co) (fun ad h i y hy => by
                                        have h0 : 0 < s.nc := by have := (List.getElem?_eq_some_iff.1 hy).1; have := (HO.out _ HCD.out).Cn; omega
                                        have h1 := (HO.out _ HCD.out).Cp h0
                                        rw [← HSPC.out, h] at h1
                                        obtain rfl := Option.some.inj h1
                                        rw [addr_at]
                                        exact ((HO.out _ HCD.out).Ca i y hy).1) (by have := HLC.out; have := HZZ.out.1; have := (HO.out _ HCD.out).Cn; have := H16.out; omega) (by have := HCD.out.size; have := HC2.out.2; have := HC2.out.1.size; omega) ?_)
                                      intro v7 w7 hx1 hx2 hx3
                                      obtain ⟨p7, c7, rfl, -⟩ := own_form hx1
                                      have HL5 := Lib.hid (HL4.out.code (HO.out _ HCD.out).Cn hx1 hx2 hx3)
                                      have HC5 : Hid (Chg [] V1 (w7.setCell ⟨F, 3, none⟩ (.slice p7 ((codeB (L.take k)).length + s.nc) c7))) := Lib.hid (chg_newer HCD.out HL5.out.2 (by
                                        intro g hg
                                        rw [List.mem_cons, Option.mem_toList] at hg
                                        have h8 := HC2.out.1.size
                                        have h9 := HC2.out.2
                                        rcases hg with e | e
                                        · have := HL4.out.hF; omega
                                        · have := HL4.out.own.ge (i := 3) (by decide) g e; omega))
                                      have hr3 := ((grown_chg hx2).row (row_lt HL4.out.row) (by rw [Option.mem_toList]; intro e; exact (HL4.out.own.ne 3 (by decide) F e).1 rfl)).trans HL4.out.row
                                      have fc : w7.cell? ⟨F, 3, none⟩ = some (.slice pc (codeB (L.take k)).length cc) := by rw [row_cell hr3]; rfl
                                      have ff : w7.frozen? ⟨F, 3, none⟩ = false := row_free hr3 _
                                      clear hx1 hx2 hx3 hr3
                                      go_wp2_with fail
                                      refine wpT_pureD (v := ?_) (some 223) rfl rfl (by rfl) (fun w' => ?_) ?_
                                      rotate_left
                                      · (go_simp; try with_reducible rfl)
                                      try simp only [Act.put, List.setIfInBounds_toArray]
                                      refine wpT_brk rfl (by rfl) (fun K hK => ?_)
                                      go_wp2_with fail
                                      refine wpT_end ?_
                                      obtain ⟨U, hU⟩ : ∃ w4, w4 = w7.setCell ⟨F, 3, none⟩ (.slice p7 ((codeB (L.take k)).length + s.nc) c7) := ⟨_, rfl⟩
                                      rw [← hU] at HL5 HC5
                                      rw [← hU]
                                      clear hU fc ff
                                      have HCD2 : Hid (Chg [] V1 U.drew) := Lib.hid (HC5.out.trans (Chg.refl _ _).drew)
                                      have HL6 := Lib.hid (HL5.out.1.keep (Chg.refl [] U).drew)
                                      obtain ⟨spd, hspd⟩ : ∃ x, x = s.pd := ⟨_, rfl⟩
                                      have HSPD := Lib.hid hspd
                                      have c0 : U.drew.cell? ⟨b, o + k * 5 + 1, none⟩ = some (.slice spd s.nd s.cd) := by rw [hspd]; exact HSC.out _ HCD2.out 1 _ rfl
                                      have C2 := Lib.hid c0
                                      have C3 : Hid (U.drew.cell? ⟨F, 4, none⟩ = some (.slice pd (dataB (L.take k)).length cd)) := Lib.hid (by rw [row_cell HL6.out.row]; rfl)
                                      clear c0 hspd
                                      go_upto_region 51 with (fail)
                                      refine wp_region_C (fun w' => w'.cell? ⟨F, 4, none⟩ = some (.slice pd (dataB (L.take k)).length cd) ∧ w'.cell? ⟨b, o + k * 5 + 1, none⟩ = some (.slice spd s.nd s.cd)) [(0, 0), (1, 1), (2, 0), (3, 0), (4, 0), (5, 0), (6, 1), (7, 3), (8, 0), (9, 3)] rfl (by kernel_rfl) ?hSD ?hTD
                                      case hSD => exact ⟨C3.out, C2.out⟩
                                      refine wpT_pureD (v := ?_) (some 224) rfl rfl (by rfl) (fun w' => ?_) ?_
                                      rotate_left
                                      · (go_simp; try with_reducible rfl)
                                      try simp only [Act.put, List.setIfInBounds_toArray, List.set_cons_zero, List.set_cons_succ]
                                      refine wpT_readD (v := ?_) (some 225) rfl rfl (by rfl) (fun w' hw => ?_) ?_
                                      rotate_left
                                      · (obtain ⟨q0, q1⟩ := hw; go_simp; try with_reducible rfl)
                                      try simp only [Act.put, List.setIfInBounds_toArray, List.set_cons_zero, List.set_cons_succ]
                                      refine wpT_pureD (v := ?_) (some 226) rfl rfl (by rfl) (fun w' => ?_) ?_
                                      rotate_left
                                      · (go_simp; try with_reducible rfl)
                                      try simp only [Act.put, List.setIfInBounds_toArray, List.set_cons_zero, List.set_cons_succ]
                                      refine wpT_pureD (v := ?_) (some 227) rfl rfl (by rfl) (fun w' => ?_) ?_
                                      rotate_left
                                      · (go_simp; try with_reducible rfl)
                                      try simp only [Act.put, List.setIfInBounds_toArray, List.set_cons_zero, List.set_cons_succ]
                                      refine wpT_pureD (v := ?_) (some 228) rfl rfl (by rfl) (fun w' => ?_) ?_
                                      rotate_left
                                      · (go_simp; try with_reducible rfl)
                                      try simp only [Act.put, List.setIfInBounds_toArray, List.set_cons_zero, List.set_cons_succ]
                                      refine wpT_pureD (v := ?_) (some 229) rfl rfl (by rfl) (fun w' => ?_) ?_
                                      rotate_left
                                      · (go_simp; try with_reducible rfl)
                                      try simp only [Act.put, List.setIfInBounds_toArray, List.set_cons_zero, List.set_cons_succ]
                                      refine wpT_readD (v := ?_) (some 230) rfl rfl (by rfl) (fun w' hw => ?_) ?_
                                      rotate_left
                                      · (obtain ⟨q0, q1⟩ := hw; go_simp; try with_reducible rfl)
                                      try simp only [Act.put, List.setIfInBounds_toArray, List.set_cons_zero, List.set_cons_succ]
                                      refine wpT_brk rfl (by rfl) (fun K hK => ?_)
                                      refine (app_srcL rfl _ _ 36 5 .u8 1 rfl Try.underlying36 info5 (by decide) H0 _ _ (dataB (L.take k)) rfl (show U.drew.ownsRow H0 5 1 (.slice pd (dataB (L.take k)).length cd) (dataB (L.take k)).length (u8L (dataB (L.take k))) from HL6.out.own.own 4 (by decide)) spd s.nd s.cd s.D rfl (HO.out _ HCD2.out).Dn (by rw [HSPD.out]; exact (HO.out _ HCD2.out).Do) (fun ad h i y hy => by
                                        have h0 : 0 < s.nd := by have := (List.getElem?_eq_some_iff.1 hy).1; have := (HO.out _ HCD2.out).Dn; omega
                                        have h1 := (HO.out _ HCD2.out).Dp h0
                                        rw [← HSPD.out, h] at h1
                                        obtain rfl := Option.some.inj h1
                                        rw [addr_at]
                                        exact ((HO.out _ HCD2.out).Da i y hy).1) (by have := HLD.out; have := HZZ.out.2; have := (HO.out _ HCD2.out).Dn; have := H16.out; omega) (by have := HCD2.out.size; have := HC2.out.2; have := HC2.out.1.size; omega) ?_)
                                      intro v8 w8 hx1 hx2 hx3
                                      obtain ⟨p8, c8, rfl, -⟩ := own_form hx1
                                      have HL7 := Lib.hid (HL6.out.data (HO.out _ HCD2.out).Dn hx1 hx2 hx3)
                                      have HC7 : Hid (Chg [] V1 (w8.setCell ⟨F, 4, none⟩ (.slice p8 ((dataB (L.take k)).length + s.nd) c8))) := Lib.hid (chg_newer HCD2.out HL7.out.2 (by
                                        intro g hg
                                        rw [List.mem_cons, Option.mem_toList] at hg
                                        have h8 := HC2.out.1.size
                                        have h9 := HC2.out.2
                                        rcases hg with e | e
                                        · have := HL6.out.hF; omega
                                        · have := HL6.out.own.ge (i := 4) (by decide) g e; omega))
                                      have hr3 := ((grown_chg hx2).row (row_lt HL6.out.row) (by rw [Option.mem_toList]; intro e; exact (HL6.out.own.ne 4 (by decide) F e).1 rfl)).trans HL6.out.row
                                      have fc : w8.cell? ⟨F, 4, none⟩ = some (.slice pd (dataB (L.take k)).length cd) := by rw [row_cell hr3]; rfl
                                      have ff : w8.frozen? ⟨F, 4, none⟩ = false := row_free hr3 _
                                      clear hx1 hx2 hx3 hr3
                                      go_wp2_with fail
                                      refine wpT_pureD (v := ?_) (some 232) rfl rfl (by rfl) (fun w' => ?_) ?_
                                      rotate_left
                                      · (go_simp; try with_reducible rfl)
                                      try simp only [Act.put, List.setIfInBounds_toArray]
                                      refine wpT_brk rfl (by rfl) (fun K hK => ?_)
                                      go_wp2_with fail
                                      refine wpT_end ?_
                                      obtain ⟨Y, hY⟩ : ∃ w4, w4 = w8.setCell ⟨F, 4, none⟩ (.slice p8 ((dataB (L.take k)).length + s.nd) c8) := ⟨_, rfl⟩
                                      rw [← hY] at HL7 HC7
                                      rw [← hY]
                                      clear hY fc ff
                                      obtain ⟨l0, hl0⟩ : ∃ x, x = sumO L 1 k + sumO L 2 k := ⟨_, rfl⟩
                                      obtain ⟨l1, hl1⟩ : ∃ x, x = s.nd + s.z := ⟨_, rfl⟩
                                      obtain ⟨l2, hl2⟩ : ∃ x, x = l0 + l1 := ⟨_, rfl⟩
                                      rw [← hl0] at HL7
                                      have HL2 : Hid (l2 = sumO L 1 (k + 1) + sumO L 2 (k + 1)) := Lib.hid (by
                                        rw [hl2, hl1, hl0, sumO_succ HS2.out, sumO_succ HS2.out]
                                        show _ = sumO L 1 k + s.nd + (sumO L 2 k + s.z)
                                        omega)
                                      have b1' : s.nd + s.z < 9000000000000000000 := by have h3 := HSS.out.2.1; have h4 := HSS.out.2.2; omega
                                      have b2' : l0 + l1 < 9000000000000000000 := by have h3 := HSS.out.2.1; have h4 := HSS.out.2.2; have h5 := HSM.out 1 k (by have := H16.out; have := HKN.out; omega); have h6 := HSM.out 2 k (by have := H16.out; have := HKN.out; omega); omega
                                      have HWa : Hid (wrap64 ((s.nd : Int) + (s.z : Int)) = (l1 : Int)) := Lib.hid (by rw [hl1]; exact w64add b1')
                                      have HWb : Hid (wrap64 ((l0 : Int) + (l1 : Int)) = (l2 : Int)) := Lib.hid (by rw [hl2]; exact w64add b2')
                                      have HYD : Hid (Chg [] Y Y.drew) := Lib.hid (Chg.refl [] Y).drew
                                      have HLY := Lib.hid (HL7.out.1.keep HYD.out)
                                      have HLZ := Lib.hid ((HL7.out.1.setl l2).keep (Chg.refl [] _).drew)
                                      clear hl0 hl1 hl2 b1' b2'
                                      have D0 : Hid (Y.drew.cell? ⟨F, 6, none⟩ = some (.int .i64 (l0 : Int))) := Lib.hid (by rw [row_cell HLY.out.row]; rfl)
                                      have D1 : Hid (Y.drew.cell? ⟨b, o + k * 5 + 1, none⟩ = some (.slice spd s.nd s.cd)) := Lib.hid (by rw [HSPD.out]; exact HSC.out _ (HC7.out.trans HYD.out) 1 _ rfl)
                                      have D2 : Hid (Y.drew.cell? ⟨b, o + k * 5 + 2, none⟩ = some (.int .i64 (s.z : Int))) := Lib.hid (HSC.out _ (HC7.out.trans HYD.out) 2 _ rfl)
                                      go_upto_region 52 with (fail)
                                      refine wp_region_C (fun w' => w'.cell? ⟨F, 6, none⟩ = some (.int .i64 (l0 : Int)) ∧ w'.cell? ⟨b, o + k * 5 + 1, none⟩ = some (.slice spd s.nd s.cd) ∧ w'.cell? ⟨b, o + k * 5 + 2, none⟩ = some (.int .i64 (s.z : Int))) [(0, 0), (1, 1), (2, 0), (3, 0), (4, 0), (5, 0), (6, 1), (7, 0), (8, 0), (9, 0), (10, 0), (11, 0), (12, 1), (13, 0), (14, 0), (15, 0), (16, 3)] rfl (by kernel_rfl) ?hSE ?hTE
                                      case hSE => exact ⟨D0.out, D1.out, D2.out⟩
                                      refine wpT_pureD (v := ?_) (some 233) rfl rfl (by rfl) (fun w' => ?_) ?_
                                      rotate_left
                                      · (go_simp; try with_reducible rfl)
                                      try simp only [Act.put, List.setIfInBounds_toArray, List.set_cons_zero, List.set_cons_succ]
                                      refine wpT_readD (v := ?_) (some 234) rfl rfl (by rfl) (fun w' hw => ?_) ?_
                                      rotate_left
                                      · (obtain ⟨q0, q1, q2⟩ := hw; go_simp; try with_reducible rfl)
                                      try simp only [Act.put, List.setIfInBounds_toArray, List.set_cons_zero, List.set_cons_succ]
                                      refine wpT_pureD (v := ?_) (some 235) rfl rfl (by rfl) (fun w' => ?_) ?_
                                      rotate_left
                                      · (go_simp; try with_reducible rfl)
                                      try simp only [Act.put, List.setIfInBounds_toArray, List.set_cons_zero, List.set_cons_succ]
                                      refine wpT_pureD (v := ?_) (some 236) rfl rfl (by rfl) (fun w' => ?_) ?_
                                      rotate_left
                                      · (go_simp; try with_reducible rfl)
                                      try simp only [Act.put, List.setIfInBounds_toArray, List.set_cons_zero, List.set_cons_succ]
                                      refine wpT_pureD (v := ?_) (some 237) rfl rfl (by rfl) (fun w' => ?_) ?_
                                      rotate_left
                                      · (go_simp; try with_reducible rfl)
                                      try simp only [Act.put, List.setIfInBounds_toArray, List.set_cons_zero, List.set_cons_succ]
                                      refine wpT_pureD (v := ?_) (some 238) rfl rfl (by rfl) (fun w' => ?_) ?_
                                      rotate_left
                                      · (go_simp; try with_reducible rfl)
                                      try simp only [Act.put, List.setIfInBounds_toArray, List.set_cons_zero, List.set_cons_succ]
                                      refine wpT_readD (v := ?_) (some 239) rfl rfl (by rfl) (fun w' hw => ?_) ?_
                                      rotate_left
                                      · (obtain ⟨q0, q1, q2⟩ := hw; go_simp; try with_reducible rfl)
                                      try simp only [Act.put, List.setIfInBounds_toArray, List.set_cons_zero, List.set_cons_succ]
                                      refine wpT_pureD (v := ?_) (some 240) rfl rfl (by rfl) (fun w' => ?_) ?_
                                      rotate_left
                                      · (go_simp; try with_reducible rfl)
                                      try simp only [Act.put, List.setIfInBounds_toArray, List.set_cons_zero, List.set_cons_succ]
                                      refine wpT_pureD (v := ?_) (some 241) rfl rfl (by rfl) (fun w' => ?_) ?_
                                      rotate_left
                                      · (go_simp; try with_reducible rfl)
                                      try simp only [Act.put, List.setIfInBounds_toArray, List.set_cons_zero, List.set_cons_succ]
                                      refine wpT_pureD (v := ?_) (some 242) rfl rfl (by rfl) (fun w' => ?_) ?_
                                      rotate_left
                                      · (go_simp; try with_reducible rfl)
                                      try simp only [Act.put, List.setIfInBounds_toArray, List.set_cons_zero, List.set_cons_succ]
                                      refine wpT_pureD (v := ?_) (some 243) rfl rfl (by rfl) (fun w' => ?_) ?_
                                      rotate_left
                                      · (go_simp; try with_reducible rfl)
                                      try simp only [Act.put, List.setIfInBounds_toArray, List.set_cons_zero, List.set_cons_succ]
                                      refine wpT_pureD (v := ?_) (some 244) rfl rfl (by rfl) (fun w' => ?_) ?_
                                      rotate_left
                                      · (go_simp; try with_reducible rfl)
                                      try simp only [Act.put, List.setIfInBounds_toArray, List.set_cons_zero, List.set_cons_succ]
                                      refine wpT_readD (v := ?_) (some 245) rfl rfl (by rfl) (fun w' hw => ?_) ?_
                                      rotate_left
                                      · (obtain ⟨q0, q1, q2⟩ := hw; go_simp; try with_reducible rfl)
                                      try simp only [Act.put, List.setIfInBounds_toArray, List.set_cons_zero, List.set_cons_succ]
                                      refine wpT_pureD (v := ?_) (some 246) rfl rfl (by rfl) (fun w' => ?_) ?_
                                      rotate_left
                                      · (go_simp; try with_reducible rfl)
                                      try simp only [Act.put, List.setIfInBounds_toArray, List.set_cons_zero, List.set_cons_succ]
                                      refine wpT_pureD (v := ?_) (some 247) rfl rfl (by rfl) (fun w' => ?_) ?_
                                      rotate_left
                                      · (go_simp; try with_reducible rfl)
                                      try simp only [Act.put, List.setIfInBounds_toArray, List.set_cons_zero, List.set_cons_succ]
                                      refine wpT_pureD (v := ?_) (some 248) rfl rfl (by rfl) (fun w' => ?_) ?_
                                      rotate_left
                                      · (go_simp; try with_reducible rfl)
                                      try simp only [Act.put, List.setIfInBounds_toArray, List.set_cons_zero, List.set_cons_succ]
                                      refine wpT_brk rfl (by rfl) (fun K hK => ?_)
                                      have fc := D0.out
                                      have ff : Y.drew.frozen? ⟨F, 6, none⟩ = false := row_free HLY.out.row _
                                      go_wp2_with fail
                                      refine wpT_end ?_
                                      rw [HWa.out, HWb.out]
                                      clear fc ff
                                      have HCF : Hid (Chg [] V1 (Y.setCell ⟨F, 6, none⟩ (.int .i64 (l2 : Int))).drew) := Lib.hid ((chg_newer HC7.out (set_chg _ _ _ _) (by intro g hg; rw [List.mem_singleton] at hg; subst hg; have := HLG2.out.hF; have := HC2.out.2; have := HC2.out.1.size; omega)).trans (Chg.refl _ _).drew)
                                      obtain ⟨wz, hwz⟩ : ∃ w4, w4 = (Y.setCell ⟨F, 6, none⟩ (.int .i64 (l2 : Int))).drew := ⟨_, rfl⟩
                                      rw [← hwz] at HLZ HCF
                                      rw [← hwz]
                                      clear hwz dK dK2
                                      go_wp2_with fail
                                      case roundEnd => exact ⟨⟨k + 1, _, _, HKN.out, by rw [HWK.out], by rw [codeB_succ HS2.out, dataB_succ HS2.out, ← HL2.out]; exact HLZ.out, HCF.out⟩, by rw [HWK.out]; simp only [intOf, Int.toNat_natCast]; have := HKN.out; omega⟩
                                  · have dK : ¬ (k : Int) < (a : Int) := by omega
                                    obtain rfl : k = a := by have := HK.out; omega
                                    clear hkn
                                    obtain ⟨pc, cc, rfl, -⟩ := own_form (show wr.ownsRow H0 5 1 vc (codeB (L.take k)).length (u8L (codeB (L.take k))) from HLG3.out.own.own 3 (by decide))
                                    obtain ⟨pd, cd, rfl, -⟩ := own_form (show wr.ownsRow H0 5 1 vd (dataB (L.take k)).length (u8L (dataB (L.take k))) from HLG3.out.own.own 4 (by decide))
                                    obtain ⟨l0, hl0⟩ : ∃ x, x = sumO L 1 k + sumO L 2 k := ⟨_, rfl⟩
                                    rw [← hl0] at HLG3
                                    obtain ⟨nc, hnc⟩ : ∃ x, x = (codeB (L.take k)).length := ⟨_, rfl⟩
                                    obtain ⟨nd, hnd⟩ : ∃ x, x = (dataB (L.take k)).length := ⟨_, rfl⟩
                                    rw [← hnc, ← hnd] at HLG3
                                    obtain ⟨vs9, hvs⟩ : ∃ x, x = Value.slice (some ⟨gs, 0, none⟩) (PL.length + 1) cs := ⟨_, rfl⟩
                                    obtain ⟨vr9, hvr⟩ : ∃ x, x = Value.slice pr Rs.length cr := ⟨_, rfl⟩
                                    have r2 := HR2.out wr (HCH.out.trans HCH3.out)
                                    have HLD : Hid (∀ (q : Nat) (u : Value), [Value.int .i64 (y : Int), .slice (some ⟨gs, 0, none⟩) (PL.length + 1) cs, .slice pr Rs.length cr, .slice pc nc cc, .slice pd nd cd, .int .i64 (b1 : Int), .int .i64 (l0 : Int)][q]? = some u → wr.cell? ⟨F, 0 + q, none⟩ = some u) := Lib.hid fun q u hu => by rw [row_cell HLG3.out.row, Nat.zero_add]; simpa using hu
                                    have HR9 := Lib.hid r2
                                    have HL0 := Lib.hid hl0
                                    have HNC := Lib.hid hnc
                                    have HND := Lib.hid hnd
                                    clear r2 hl0 hnc hnd hvs hvr
                                    go_wp2_with (first | (refine wpList_load_part a38 [Value.int .i64 (y : Int), .slice (some ⟨gs, 0, none⟩) (PL.length + 1) cs, .slice pr Rs.length cr, .slice pc nc cc, .slice pd nd cd, .int .i64 (b1 : Int), .int .i64 (l0 : Int)] rfl _ rfl rfl rfl HLD.out ?_) | (refine wpList_store_row a38 _ _ rfl rfl rfl rfl rfl HR9.out rfl rfl rfl ?_))
                                    refine bodyPost_ret (ret_cell2 rfl a38 rfl (by rw [row_setRow, if_pos rfl, HR9.out]; rfl) rfl rfl) rfl ?_
                                    have hE : errL L = 0 := by unfold errL; rw [HE1.out, HE2.out, HE3.out, HE4.out, HE5.out, HE6.out, HE7'.out]; rfl
                                    have hc9 : Chg [R2] wr (wr.setRow R2 #[.int .i64 (y : Int), .slice (some ⟨gs, 0, none⟩) (PL.length + 1) cs, .slice pr Rs.length cr, .slice pc nc cc, .slice pd nd cd, .int .i64 (b1 : Int), .int .i64 (l0 : Int)]) := (Chg.refl [R2] wr).setRow (.inl (by simp)) _
                                    have hWH : W.heap.size ≤ H0 ∧ R2 < H0 := by have := HC0.out.1.size; have := HC0.out.2.2; have := HCH.out.size; have := HC2.out.2; omega
                                    have hown := HLG3.out.own
                                    have fin : ∀ {e s n : Nat} {v : Value} {xs : List Value}, wr.ownsRow H0 e s v n xs → (wr.setRow R2 #[.int .i64 (y : Int), .slice (some ⟨gs, 0, none⟩) (PL.length + 1) cs, .slice pr Rs.length cr, .slice pc nc cc, .slice pd nd cd, .int .i64 (b1 : Int), .int .i64 (l0 : Int)]).ownsRow W.heap.size e s v n xs := fun h => own_base (ownsRow_chg h hc9 (by intro k hk; have := (h.lt k hk).1; rw [List.mem_singleton]; omega)) hWH.1
                                    have tk : L.take k = L := List.take_of_length_le (by have := HN.out; omega)
                                    refine ⟨#[.int .i64 (y : Int), .slice (some ⟨gs, 0, none⟩) (PL.length + 1) cs, .slice pr Rs.length cr, .slice pc nc cc, .slice pd nd cd, .int .i64 (b1 : Int), .int .i64 (l0 : Int)], by rw [hE]; rfl, fun h => absurd hE h, fun _ => ⟨⟨.slice (some ⟨gs, 0, none⟩) (PL.length + 1) cs, .slice pr Rs.length cr, .slice pc nc cc, .slice pd nd cd, ?_, fin ?_, ?_, fin ?_, fin ?_⟩⟩, (HCA.out.trans HCH3.out).setRow (.inr HC0.out.2.1) _⟩
                                    · have e1 : entL L = y := by unfold entL; rw [← HPL.out, ← HZ1.out, HY.out]; rfl
                                      rw [e1, ← HB1.out, HN.out, ← HL0.out]
                                    · rw [← HPL.out]; exact hown.own 1 (by decide)
                                    · rw [HRs.out]; exact fin (hown.own 2 (by decide))
                                    · have h := hown.own 3 (by decide)
                                      rw [tk] at h
                                      have e : nc = (codeB L).length := by rw [HNC.out, tk]
                                      rw [e] at h ⊢
                                      exact h
                                    · have h := hown.own 4 (by decide)
                                      rw [tk] at h
                                      have e : nd = (dataB L).length := by rw [HND.out, tk]
                                      rw [e] at h ⊢
                                      exact h
end Go.Proofs.L
