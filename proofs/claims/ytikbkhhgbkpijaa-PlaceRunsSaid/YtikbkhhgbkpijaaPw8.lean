/- Proved here: lemmas and contracts (Pw8) for the laws of this seat, for all values of the stated types; no further condition. -/
import Derived.Test.YtikbkhhgbkpijaaPw6c
open Go Go.RowKit Go.Lib Go.Maps
namespace Go.Proofs.L
attribute [local irreducible] wpT
/-! PlaceRuns: the walk -/
theorem fit_all (w : World) : Calls Try.prog 7 #[] w fun e w' => e = .returned (.bool true) ∧ Chg [] w w' := (fit_ok w).mono fun e w' h => ⟨h.1, Below.chg h.2 []⟩
theorem w64d (x : Nat) (h : x < 8589934592) : wrap64 (x : Int) = (x : Int) := IntWalk.wrap64_in _ ⟨by omega, by omega⟩
theorem a37 : aggT Try.prog 37 5 := aggT_of (by kernel_rfl)
/-- both memories hold f; what stood before is as it was -/
structure Both (w0 w : World) (mb p m N : Nat) (f : Nat → Nat) : Prop where
  row : w.row? mb = some (mem f)
  ram : RamAt w p m N f
  byt : ∀ i, f i < 256
  chg : Chg [] w0 w
  mb0 : w0.heap.size ≤ mb
  m0 : w0.heap.size ≤ m
  p0 : w0.heap.size ≤ p
  ne1 : mb ≠ p
  ne2 : mb ≠ m
theorem Both.keep {w0 w w' : World} {mb p m N : Nat} {f : Nat → Nat} (h : Both w0 w mb p m N f) (hc : Chg [] w w') : Both w0 w' mb p m N f :=
  ⟨(hc.row (row_lt h.row) (by simp)).trans h.row, h.ram.keep hc (by simp) (by simp), h.byt, h.chg.trans hc, h.mb0, h.m0, h.p0, h.ne1, h.ne2⟩
theorem chgM {w V w3 : World} {mb : Nat} (h1 : Chg [] w V) (h2 : Chg [mb] V w3) (hm : w.heap.size ≤ mb) : Chg [] w w3 :=
  ⟨h2.os.trans h1.os, h2.tape.trans h1.tape, h2.output.trans h1.output, Nat.le_trans h1.size h2.size, fun k hk _ => (h2.block k (Nat.lt_of_lt_of_le hk h1.size) (by rw [List.mem_singleton]; omega)).trans (h1.block k hk (by simp))⟩
theorem Both.wrote {w0 w w4 w5 : World} {mb p m N N' : Nat} {f f' : Nat → Nat} (h : Both w0 w mb p m N f) (hc4 : Chg [mb] w w4) (hr4 : w4.row? mb = some (mem f')) (hc5 : Chg [m] w4 w5) (hR5 : RamAt w5 p m N' f') (hf : ∀ i, f' i < 256) : Both w0 w5 mb p m N' f' :=
  ⟨(hc5.row (row_lt hr4) (by simpa using h.ne2)).trans hr4, hR5, hf, chgM (chgM h.chg hc4 h.mb0) hc5 h.m0, h.mb0, h.m0, h.p0, h.ne1, h.ne2⟩
theorem Both.copied {w0 w w4 w5 : World} {mb p m N nb : Nat} {f : Nat → Nat} (h : Both w0 w mb p m N f) (hc4 : Chg [] w w4) (hr4 : w4.row? nb = some (mem f)) (hnb : w.heap.size ≤ nb) (hc5 : Chg [mb] w4 w5) : Both w0 w5 nb p m N f :=
  have h1 := h.keep hc4
  have hl := h.mb0
  ⟨(hc5.row (row_lt hr4) (by have := row_lt h.row; simp; omega)).trans hr4, h1.ram.keep hc5 (by simpa using h.ne1.symm) (by simpa using h.ne2.symm), h.byt, chgM h1.chg hc5 h.mb0, Nat.le_trans h.chg.size hnb, h.m0, h.p0, by have := row_lt h.ram.row; omega, by have := h.ram.mlt; omega⟩
set_option maxRecDepth 100000 in
set_option maxHeartbeats 16000000 in
theorem runs_walk {X : World} {p : Option Addr} {b o n c : Nat} {S : List Ca} (hS : CasAt X b o S) (hSn : S.length = n) (hp : 0 < n → p = some ⟨b, o, none⟩) (hlen : ∀ s ∈ S, s.len ≤ 140737488355328) :
    Calls Try.prog 4 #[.slice p n c] X fun e w' => e = .returned (.bool true) ∧ Chg [] X w' := by
  have HS : Hid (∀ W, Chg [] X W → CasAt W b o S) := Lib.hid fun W hW => hS.keep hW
  have HSN := Lib.hid hSn
  have HP := Lib.hid hp
  have HLEN := Lib.hid hlen
  clear hS hSn hp hlen
  go_enter Try.func4, Try.ntmps4
  go_wp2_with fail
  refine (fit_all X).mono ?_
  rintro e w1 ⟨rfl, hc1⟩
  have HC1 := Lib.hid hc1
  clear hc1
  go_wp2_with fail
  go_loopw [27, 3] (fun i v wr => ∃ (k T : Nat), k ≤ n ∧ k ≤ T ∧ i = .int .i64 (k : Int) ∧ v = .int .i64 (T : Int) ∧ T ≤ 3000 ∧ (∀ j, j < k → ∀ s, S[j]? = some s → s.len ≤ 3000) ∧ Chg [] X wr) (fun i _ _ => n - (intOf i).toNat)
  case atStart => exact ⟨0, 0, Nat.zero_le _, Nat.le_refl _, rfl, rfl, by omega, fun j hj => by omega, HC1.out⟩
  case round =>
    obtain ⟨k, T, hk, hkT, rfl, rfl, hT, hall, hch⟩ := hrel
    have HK := Lib.hid hk
    have HKT := Lib.hid hkT
    have HT := Lib.hid hT
    have HALL := Lib.hid hall
    have HCH := Lib.hid hch
    clear hk hkT hT hall hch
    by_cases hkn : k < n
    · have HKN := Lib.hid hkn
      have dI : (k : Int) < (n : Int) := by omega
      obtain ⟨s, hs⟩ : ∃ s, S[k]? = some s := ⟨_, List.getElem?_eq_getElem (by rw [HSN.out]; exact hkn)⟩
      obtain ⟨hsc, hso⟩ := HS.out _ HCH.out k s hs
      have hln := HLEN.out s (List.mem_of_getElem? hs)
      obtain rfl := HP.out (by omega)
      obtain ⟨T1, hT1⟩ : ∃ T1, T1 = 1 + s.len := ⟨_, rfl⟩
      obtain ⟨T2, hT2⟩ : ∃ T2, T2 = T + T1 := ⟨_, rfl⟩
      have W1 : Hid (wrap64 (1 + (s.len : Int)) = (T1 : Int)) := Lib.hid (by rw [IntWalk.wrap64_in _ ⟨by omega, by omega⟩]; omega)
      have W2 : Hid (wrap64 ((T : Int) + (T1 : Int)) = (T2 : Int)) := Lib.hid (by have := HT.out; rw [IntWalk.wrap64_in _ ⟨by omega, by omega⟩]; omega)
      have HW : Hid (wrap64 ((k : Int) + 1) = ((k + 1 : Nat) : Int)) := Lib.hid (by have h1 := HT.out; have h2 := HKT.out; rw [IntWalk.wrap64_in _ ⟨by omega, by omega⟩]; omega)
      obtain ⟨B, hB⟩ : ∃ b, b = wr.heap.size := ⟨_, rfl⟩
      obtain ⟨Z, hZ⟩ : ∃ Z, Z = wr.alloc (.cells (CaC s).toArray 37) := ⟨_, rfl⟩
      have hcZ : Chg [] wr Z := by rw [hZ]; exact (Chg.refl _ _).alloc _
      have hr1 : Z.row? B = some (CaC s).toArray := by rw [hZ]; exact row_alloc_at _ _ _ _ hB
      have D1 : Hid (Z.cell? ⟨B, 4, none⟩ = some (.slice s.ptr s.len s.cap)) := Lib.hid (by rw [row_cell hr1]; rfl)
      have HCZ : Hid (Chg [] X Z) := Lib.hid (HCH.out.trans hcZ)
      have HSC := Lib.hid hsc
      have HS1 := Lib.hid hs
      have HZ := Lib.hid hZ
      have HB1 := Lib.hid hB
      have HT2 : Hid (T2 = T + (1 + s.len)) := Lib.hid (by omega)
      clear hs hsc hso hln hT1 hT2 hB hZ hcZ hr1 hkn
      go_upto_region 7 with (first | (refine wpList_load_part a37 (CaC s) rfl _ rfl rfl rfl HSC.out ?_) | (refine wpList_store_new a37 _ _ rfl rfl rfl rfl rfl rfl rfl rfl ?_))
      rw [← HZ.out, ← HB1.out]
      clear HZ HB1 dI
      have d1 := D1.out
      have w1' := W1.out
      have w2' := W2.out
      go_upto_region 8 with (fail)
      clear d1 w1' w2'
      rcases Nat.lt_or_ge 3000 T2 with h1 | h1
      · have i1 : (3000 : Int) < (T2 : Int) := by omega
        have w3' := W2.out
        go_wp2
        go_ret
        exact ⟨rfl, HCZ.out⟩
      · have i1 : ¬ (3000 : Int) < (T2 : Int) := by omega
        have i1n : ¬ 3000 < T2 := by omega
        have HH : Hid (T2 ≤ 3000 ∧ s.len ≤ 3000 ∧ k + 1 ≤ T2) := Lib.hid ⟨h1, by have := HT2.out; omega, by have := HT2.out; have := HKT.out; omega⟩
        clear h1
        have w3' := W2.out
        go_wp2
        case roundEnd => exact ⟨⟨k + 1, T2, HKN.out, HH.out.2.2, by rw [HW.out], by rw [W2.out], HH.out.1, fun j hj s' hs' => by
          by_cases e : j = k
          · subst e; rw [HS1.out] at hs'; obtain rfl := Option.some.inj hs'; exact HH.out.2.1
          · exact HALL.out j (by omega) s' hs', HCZ.out⟩, by rw [HW.out]; simp only [intOf, Int.toNat_natCast]; have := HKN.out; omega⟩
    · have dI : ¬ (k : Int) < (n : Int) := by omega
      have HN : Hid (n ≤ 3000) := Lib.hid (by have h1 := HT.out; have h2 := HKT.out; omega)
      have HA : Hid (∀ s ∈ S, s.len ≤ 3000) := Lib.hid fun s hs => by
        obtain ⟨j, hj, rfl⟩ := List.mem_iff_getElem.1 hs
        exact HALL.out j (by have := HSN.out; omega) _ (List.getElem?_eq_getElem hj)
      clear hkn
      go_wp2_with fail
      refine (new_ok wr).mono ?_
      rintro e w2 ⟨rfl, hw2⟩
      obtain ⟨mb, hmb⟩ : ∃ b, b = wr.heap.size := ⟨_, rfl⟩
      have HM2 : Hid (w2.row? mb = some (mem fun _ => 0)) := Lib.hid (by rw [hw2, hmb]; exact new_row wr)
      have HC2 : Hid (Chg [] X w2) := Lib.hid (by rw [hw2]; exact HCH.out.alloc _)
      have HMB : Hid (X.heap.size ≤ mb) := Lib.hid (by rw [hmb]; exact HCH.out.size)
      rw [← hmb]
      clear hw2 hmb
      go_wp2_with fail
      refine (rnew_any w2).mono ?_
      rintro e w3 ⟨pp, m, rfl, hram, hc3, hpp, hmm⟩
      have HB0 : Hid (Both X w3 mb pp m 0 (fun _ => 0)) := Lib.hid
        ⟨(hc3.row (row_lt HM2.out) (by simp)).trans HM2.out, hram, fun _ => by decide, HC2.out.trans hc3, HMB.out, Nat.le_trans HC2.out.size hmm, Nat.le_trans HC2.out.size hpp,
          by have := row_lt HM2.out; omega, by have := row_lt HM2.out; omega⟩
      clear hram hc3 hpp hmm dI
      go_wp2_with fail
      go_loopw [44, 6] (fun i q wr => ∃ (k mb N : Nat) (f : Nat → Nat), k ≤ n ∧ i = .int .i64 (k : Int) ∧ q = .pointer (some ⟨mb, 0, none⟩) ∧ N ≤ 3000 * k ∧ Both X wr mb pp m N f) (fun i _ _ => n - (intOf i).toNat)
      case atStart => exact ⟨0, _, 0, _, Nat.zero_le _, rfl, rfl, Nat.le_refl _, HB0.out⟩
      case round =>
        obtain ⟨k2, mb2, N, f, hk2, rfl, rfl, hN, hboth⟩ := hrel
        have HK2 := Lib.hid hk2
        have HNN := Lib.hid hN
        have HBO := Lib.hid hboth
        clear hk2 hN hboth
        by_cases hkn : k2 < n
        · have HKN := Lib.hid hkn
          have dI : (k2 : Int) < (n : Int) := by omega
          obtain ⟨s, hs⟩ : ∃ s, S[k2]? = some s := ⟨_, List.getElem?_eq_getElem (by rw [HSN.out]; exact hkn)⟩
          obtain ⟨hsc, hso⟩ := HS.out _ HBO.out.chg k2 s hs
          have HLN := Lib.hid (HA.out s (List.mem_of_getElem? hs))
          obtain rfl := HP.out (by omega)
          have HW : Hid (wrap64 ((k2 : Int) + 1) = ((k2 + 1 : Nat) : Int)) := Lib.hid (wrap1 k2 (by have := HN.out; omega))
          have HWA := Lib.hid (w64d s.ad (by have := hso.ad; omega))
          have HWX := Lib.hid (w64d s.x (by have := hso.x; omega))
          have HWX2 : Hid (IntKind.i64.wrap (s.x : Int) = (s.x : Int)) := Lib.hid (i64in (by omega) (by have := hso.x; omega))
          obtain ⟨B, hB⟩ : ∃ b, b = wr.heap.size := ⟨_, rfl⟩
          obtain ⟨Z, hZ⟩ : ∃ Z, Z = wr.alloc (.cells (CaC s).toArray 37) := ⟨_, rfl⟩
          have hcZ : Chg [] wr Z := by rw [hZ]; exact (Chg.refl _ _).alloc _
          have hr1 : Z.row? B = some (CaC s).toArray := by rw [hZ]; exact row_alloc_at _ _ _ _ hB
          have HRZ := Lib.hid hr1
          have HBZ : Hid (Both X Z mb2 pp m N f) := Lib.hid (HBO.out.keep hcZ)
          have HBN : Hid (B ≠ mb2 ∧ B ≠ pp ∧ B ≠ m) := Lib.hid ⟨by have := row_lt HBO.out.row; omega, by have := row_lt HBO.out.ram.row; omega, by have := HBO.out.ram.mlt; omega⟩
          have HSZ : Hid (CaOk Z s) := Lib.hid (HS.out _ HBZ.out.chg k2 s hs).2
          have HSX : Hid (CaOk X s) := Lib.hid (HS.out _ (Chg.refl _ _) k2 s hs).2
          have HSC := Lib.hid hsc
          have HZ := Lib.hid hZ
          have HB1 := Lib.hid hB
          clear hs hsc hso hB hZ hcZ hr1 hkn
          go_upto_region 15 with (first | (refine wpList_load_part a37 (CaC s) rfl _ rfl rfl rfl HSC.out ?_) | (refine wpList_store_new a37 _ _ rfl rfl rfl rfl rfl rfl rfl rfl ?_))
          rw [← HZ.out, ← HB1.out]
          clear HZ HB1 dI
          have d1 : Z.cell? ⟨B, 1, none⟩ = some (.int .u32 (s.ad : Int)) := by rw [row_cell HRZ.out]; rfl
          have wa := HWA.out
          go_upto_region 16 with (fail)
          clear d1 wa
          have d0 : Z.cell? ⟨B, 0, none⟩ = some (.int .i64 s.kd) := by rw [row_cell HRZ.out]; rfl
          go_upto_block 4 with (fail)
          rw [HWA.out]
          go_cut [6, 11] (fun q o wx => ∃ (mb N' : Nat) (f' : Nat → Nat), q = .pointer (some ⟨mb, 0, none⟩) ∧ o = .bool true ∧ N' ≤ N + 3000 ∧ Both X wx mb pp m N' f' ∧ wx.row? B = some (CaC s).toArray)
          case first =>
            clear d0
            by_cases k0 : s.kd = 0
            · have b0 : (s.kd == 0) = true := beq_iff_eq.2 k0
              clear k0
              have d1 : Z.cell? ⟨B, 1, none⟩ = some (.int .u32 (s.ad : Int)) := by rw [row_cell HRZ.out]; rfl
              have d3 : Z.cell? ⟨B, 3, none⟩ = some (.int .u32 (s.x : Int)) := by rw [row_cell HRZ.out]; rfl
              obtain ⟨n5, hn5⟩ : ∃ n5, n5 = s.x % 5000 := ⟨_, rfl⟩
              have HN5 : Hid ((s.x : Int) % 5000 = (n5 : Int)) := Lib.hid (by omega)
              have HL5 : Hid (n5 < 4294967296) := Lib.hid (by omega)
              have HP1 := get_all HBZ.out.row HSZ.out.ad HL5.out
              have HW5 := Lib.hid (w64d n5 (by omega))
              clear hn5
              cases hg : inRam s.ad n5
              case true =>
                have HG := Lib.hid hg
                rw [hg] at HP1
                have HP1 := Lib.hid HP1
                clear hg
                go_upto_region 19 with (fail)
                rw [HN5.out]
                go_wp2_with fail
                refine HP1.out.mono ?_
                rintro e w4 ⟨v, rfl, hcv, hc4⟩
                have HCV := Lib.hid hcv
                have HC4 := Lib.hid hc4
                clear hcv hc4 d1 d3
                have HR1 := rget_all (HBZ.out.keep HC4.out).ram HSZ.out.ad HL5.out
                rw [HG.out] at HR1
                have HR1 := Lib.hid HR1
                have wn := HW5.out
                go_wp2_with fail
                refine HR1.out.mono ?_
                rintro e w5 ⟨v2, rfl, hcv2, hc5⟩
                have HB5 : Hid (Both X w5 mb2 pp m N f) := Lib.hid ((HBZ.out.keep HC4.out).keep hc5)
                have HRV : Hid (w5.row? B = some (CaC s).toArray) := Lib.hid (((HC4.out.trans hc5).row (row_lt HRZ.out) (by simp)).trans HRZ.out)
                have hv1 := HCV.out w5 hc5
                have hv2 := hcv2 w5 (Chg.refl _ _)
                clear hc5 hcv2 HR1 HP1 wn HCV
                generalize gsV f s.ad n5 = xs at hv1 hv2
                have HV1 := Lib.hid hv1
                have HV2 := Lib.hid hv2
                clear hv1 hv2
                go_upto_region 21 with (fail)
                have hv1 := HV1.out
                have hv2 := HV2.out
                go_wp2_with fail
                go_meet
                exact ⟨mb2, N, f, rfl, rfl, by omega, HB5.out, HRV.out⟩
              case false =>
                have HG := Lib.hid hg
                rw [hg] at HP1
                have HP1 := Lib.hid HP1
                clear hg
                go_upto_region 19 with (fail)
                rw [HN5.out]
                go_wp2_with fail
                refine HP1.out.mono ?_
                rintro e w4 ⟨v, rfl, hcv, hc4⟩
                have HCV := Lib.hid hcv
                have HC4 := Lib.hid hc4
                clear hcv hc4 d1 d3
                have HR1 := rget_all (HBZ.out.keep HC4.out).ram HSZ.out.ad HL5.out
                rw [HG.out] at HR1
                have HR1 := Lib.hid HR1
                have wn := HW5.out
                go_wp2_with fail
                refine HR1.out.mono ?_
                rintro e w5 ⟨v2, rfl, hcv2, hc5⟩
                have HB5 : Hid (Both X w5 mb2 pp m N f) := Lib.hid ((HBZ.out.keep HC4.out).keep hc5)
                have HRV : Hid (w5.row? B = some (CaC s).toArray) := Lib.hid (((HC4.out.trans hc5).row (row_lt HRZ.out) (by simp)).trans HRZ.out)
                have hv1 := HCV.out w5 hc5
                have hv2 := hcv2 w5 (Chg.refl _ _)
                clear hc5 hcv2 HR1 HP1 wn HCV
                generalize gsV f s.ad n5 = xs at hv1 hv2
                have HV1 := Lib.hid hv1
                have HV2 := Lib.hid hv2
                clear hv1 hv2
                go_upto_region 21 with (fail)
                have hv1 := HV1.out
                have hv2 := HV2.out
                go_wp2_with fail
                go_meet
                exact ⟨mb2, N, f, rfl, rfl, by omega, HB5.out, HRV.out⟩
            · skip
              by_cases k1 : s.kd = 1
              · have b1 : (s.kd == 1) = true := beq_iff_eq.2 k1
                have b0 : (s.kd == 0) = false := beq_eq_false_iff_ne.2 k0
                clear k0 k1
                have d1 : Z.cell? ⟨B, 1, none⟩ = some (.int .u32 (s.ad : Int)) := by rw [row_cell HRZ.out]; rfl
                have d4 : Z.cell? ⟨B, 4, none⟩ = some (.slice s.ptr s.len s.cap) := by rw [row_cell HRZ.out]; rfl
                have HBB : Hid (∃ bb', (0 < s.len → bb' = s.bb) ∧ bb' ≠ m ∧ bb' ≠ mb2) := Lib.hid (by
                  by_cases h0 : 0 < s.len
                  · refine ⟨s.bb, fun _ => rfl, ?_, ?_⟩
                    · have h1 := World.block_lt_of_cell? _ _ (HSX.out.cells 0 h0); have h2 := HBZ.out.m0; simp only at h1; omega
                    · have h1 := World.block_lt_of_cell? _ _ (HSX.out.cells 0 h0); have h2 := HBZ.out.mb0; simp only at h1; omega
                  · exact ⟨m + mb2 + 1, fun h => absurd h h0, by omega, by omega⟩)
                have HP1 := Lib.hid (put_anyN (g := s.g) (cap := s.cap) HBZ.out.row HSZ.out.ad HLN.out HSZ.out.ptr HSZ.out.cells)
                cases hg : inRam s.ad s.len
                case true =>
                  have HG := Lib.hid hg
                  have HP2 := HP1.out
                  rw [hg] at HP2
                  have HP2 := Lib.hid HP2
                  clear hg HP1
                  go_wp2_with fail
                  refine HP2.out.mono ?_
                  rintro e w4 ⟨rfl, hr4, hc4⟩
                  have HR4 := Lib.hid hr4
                  have HC4 := Lib.hid hc4
                  have HV4 : Hid (w4.row? B = some (CaC s).toArray) := Lib.hid ((hc4.row (row_lt HRZ.out) (by simpa using HBN.out.1)).trans HRZ.out)
                  clear hr4 hc4 HP2 d1 d4
                  have d4 : w4.cell? ⟨B, 4, none⟩ = some (.slice s.ptr s.len s.cap) := by rw [row_cell HV4.out]; rfl
                  obtain ⟨bb', hb1, hb2, hb3⟩ := HBB.out
                  have HR2 := rput_anyN (w := w4) (ptr := s.ptr) (a := s.ad) (cap := s.cap) (bo := s.bo) (g := s.g) (HBZ.out.ram.keep HC4.out (by simpa using HBZ.out.ne1.symm) (by simpa using HBZ.out.ne2.symm)) HSZ.out.ad HLN.out (fun h => by rw [hb1 h]; exact HSZ.out.ptr h) hb2 (fun j hj => by rw [hb1 (by omega)]; exact cell_keep (HSZ.out.cells j hj) HC4.out (by rw [← hb1 (by omega)]; simpa using hb3)) HSZ.out.byt (by have := HNN.out; have := HK2.out; have := HN.out; omega)
                  rw [HG.out] at HR2
                  have HR2 := Lib.hid HR2
                  clear hb1 hb2 hb3
                  go_wp2_with fail
                  refine HR2.out.mono ?_
                  rintro e w5 ⟨rfl, ⟨N5, hN5, hR5⟩, hc5⟩
                  have HB5 : Hid (Both X w5 mb2 pp m N5 (ptV f s.ad s.len s.g)) := Lib.hid (HBZ.out.wrote HC4.out HR4.out hc5 hR5 (ptV_lt HBZ.out.byt HSZ.out.byt _ _))
                  have HRV : Hid (w5.row? B = some (CaC s).toArray) := Lib.hid ((hc5.row (row_lt HV4.out) (by simpa using HBN.out.2.2)).trans HV4.out)
                  have HN5 := Lib.hid hN5
                  clear hc5 hR5 hN5 HR2 d4
                  go_wp2_with fail
                  go_meet
                  exact ⟨mb2, N5, _, rfl, rfl, by have := HN5.out; have := HLN.out; omega, HB5.out, HRV.out⟩
                case false =>
                  have HG := Lib.hid hg
                  have HP2 := HP1.out
                  rw [hg] at HP2
                  have HP2 := Lib.hid HP2
                  clear hg HP1
                  go_wp2_with fail
                  refine HP2.out.mono ?_
                  rintro e w4 ⟨rfl, hr4, hc4⟩
                  have HR4 := Lib.hid hr4
                  have HC4 := Lib.hid hc4
                  have HV4 : Hid (w4.row? B = some (CaC s).toArray) := Lib.hid ((hc4.row (row_lt HRZ.out) (by simpa using HBN.out.1)).trans HRZ.out)
                  clear hr4 hc4 HP2 d1 d4
                  have d4 : w4.cell? ⟨B, 4, none⟩ = some (.slice s.ptr s.len s.cap) := by rw [row_cell HV4.out]; rfl
                  obtain ⟨bb', hb1, hb2, hb3⟩ := HBB.out
                  have HR2 := rput_anyN (w := w4) (ptr := s.ptr) (a := s.ad) (cap := s.cap) (bo := s.bo) (g := s.g) (HBZ.out.ram.keep HC4.out (by simpa using HBZ.out.ne1.symm) (by simpa using HBZ.out.ne2.symm)) HSZ.out.ad HLN.out (fun h => by rw [hb1 h]; exact HSZ.out.ptr h) hb2 (fun j hj => by rw [hb1 (by omega)]; exact cell_keep (HSZ.out.cells j hj) HC4.out (by rw [← hb1 (by omega)]; simpa using hb3)) HSZ.out.byt (by have := HNN.out; have := HK2.out; have := HN.out; omega)
                  rw [HG.out] at HR2
                  have HR2 := Lib.hid HR2
                  clear hb1 hb2 hb3
                  go_wp2_with fail
                  refine HR2.out.mono ?_
                  rintro e w5 ⟨rfl, ⟨N5, hN5, hR5⟩, hc5⟩
                  have HB5 : Hid (Both X w5 mb2 pp m N5 (ptV f s.ad s.len s.g)) := Lib.hid (HBZ.out.wrote HC4.out HR4.out hc5 hR5 (ptV_lt HBZ.out.byt HSZ.out.byt _ _))
                  have HRV : Hid (w5.row? B = some (CaC s).toArray) := Lib.hid ((hc5.row (row_lt HV4.out) (by simpa using HBN.out.2.2)).trans HV4.out)
                  have HN5 := Lib.hid hN5
                  clear hc5 hR5 hN5 HR2 d4
                  go_wp2_with fail
                  go_meet
                  exact ⟨mb2, N5, _, rfl, rfl, by have := HN5.out; have := HLN.out; omega, HB5.out, HRV.out⟩
              · skip
                by_cases k2' : s.kd = 2
                · have b2 : (s.kd == 2) = true := beq_iff_eq.2 k2'
                  have b0 : (s.kd == 0) = false := beq_eq_false_iff_ne.2 k0
                  have b1 : (s.kd == 1) = false := beq_eq_false_iff_ne.2 k1
                  clear k0 k1 k2'
                  have d1 : Z.cell? ⟨B, 1, none⟩ = some (.int .u32 (s.ad : Int)) := by rw [row_cell HRZ.out]; rfl
                  have d2 : Z.cell? ⟨B, 2, none⟩ = some (.int .i64 s.n) := by rw [row_cell HRZ.out]; rfl
                  have HP1 := load_all (n := s.n) HBZ.out.row HBZ.out.byt HSZ.out.ad
                  have HR1 := rload_all (n := s.n) HBZ.out.ram HBZ.out.byt HSZ.out.ad
                  obtain ⟨y, hy⟩ : ∃ y, y = ldW f s.ad s.n := ⟨_, rfl⟩
                  rw [← hy] at HP1 HR1
                  have HY := Lib.hid (w64d y (by have := ldW_lt HBZ.out.byt s.ad s.n; omega))
                  clear hy
                  have HP1 := Lib.hid HP1
                  have HR1 := Lib.hid HR1
                  cases hg : goodN s.ad s.n
                  case true =>
                    have HP2 := HP1.out
                    have HR2 := Lib.hid HR1.out
                    rw [hg] at HP2 HR2
                    clear hg HP1 HR1
                    go_wp2_with fail
                    refine HP2.mono ?_
                    rintro e w4 ⟨rfl, hw4⟩
                    obtain rfl := hw4.symm
                    clear hw4 HP2
                    go_wp2_with fail
                    refine HR2.out.mono ?_
                    rintro e w5 ⟨rfl, hc5⟩
                    have HB5 : Hid (Both X w5 mb2 pp m N f) := Lib.hid (HBZ.out.keep hc5)
                    have HRV : Hid (w5.row? B = some (CaC s).toArray) := Lib.hid ((hc5.row (row_lt HRZ.out) (by simp)).trans HRZ.out)
                    clear hc5 HR2 d1 d2
                    have wy := HY.out
                    go_wp2_with fail
                    go_meet
                    exact ⟨mb2, N, f, rfl, rfl, by omega, HB5.out, HRV.out⟩
                  case false =>
                    have HP2 := HP1.out
                    have HR2 := Lib.hid HR1.out
                    rw [hg] at HP2 HR2
                    clear hg HP1 HR1
                    go_wp2_with fail
                    refine HP2.mono ?_
                    rintro e w4 ⟨rfl, hw4⟩
                    obtain rfl := hw4.symm
                    clear hw4 HP2
                    go_wp2_with fail
                    refine HR2.out.mono ?_
                    rintro e w5 ⟨rfl, hc5⟩
                    have HB5 : Hid (Both X w5 mb2 pp m N f) := Lib.hid (HBZ.out.keep hc5)
                    have HRV : Hid (w5.row? B = some (CaC s).toArray) := Lib.hid ((hc5.row (row_lt HRZ.out) (by simp)).trans HRZ.out)
                    clear hc5 HR2 d1 d2
                    have wy := HY.out
                    go_wp2_with fail
                    go_meet
                    exact ⟨mb2, N, f, rfl, rfl, by omega, HB5.out, HRV.out⟩
                · skip
                  by_cases k3 : s.kd = 3
                  · have b3 : (s.kd == 3) = true := beq_iff_eq.2 k3
                    have b0 : (s.kd == 0) = false := beq_eq_false_iff_ne.2 k0
                    have b1 : (s.kd == 1) = false := beq_eq_false_iff_ne.2 k1
                    have b2 : (s.kd == 2) = false := beq_eq_false_iff_ne.2 k2'
                    clear k0 k1 k2' k3
                    have D1 := Lib.hid (show Z.drew.cell? ⟨B, 1, none⟩ = some (.int .u32 (s.ad : Int)) from (show Z.cell? _ = _ by rw [row_cell HRZ.out]; rfl))
                    have D2 := Lib.hid (show Z.drew.cell? ⟨B, 2, none⟩ = some (.int .i64 s.n) from (show Z.cell? _ = _ by rw [row_cell HRZ.out]; rfl))
                    have D3 := Lib.hid (show Z.drew.cell? ⟨B, 3, none⟩ = some (.int .u32 (s.x : Int)) from (show Z.cell? _ = _ by rw [row_cell HRZ.out]; rfl))
                    have HBD : Hid (Both X Z.drew mb2 pp m N f) := Lib.hid (HBZ.out.keep (Chg.refl _ _).drew)
                    have HP1 := store_all (n := s.n) (w := Z.drew) HBD.out.row HSZ.out.ad HSZ.out.x
                    have HRD : Hid (Z.drew.row? B = some (CaC s).toArray) := Lib.hid (((Chg.refl [] Z).drew.row (row_lt HRZ.out) (by simp)).trans HRZ.out)
                    have HG : Hid (∃ q, q = goodN s.ad s.n) := Lib.hid ⟨_, rfl⟩
                    obtain ⟨q, hq⟩ := HG.out
                    rw [← hq] at HP1
                    have HP1 := Lib.hid HP1
                    have HQ := Lib.hid hq
                    clear hq HG
                    cases q
                    case true =>
                      go_wp2_with fail
                      refine wp_region_C (fun w' => w'.cell? ⟨B, 1, none⟩ = some (.int .u32 (s.ad : Int)) ∧ w'.cell? ⟨B, 2, none⟩ = some (.int .i64 s.n) ∧ w'.cell? ⟨B, 3, none⟩ = some (.int .u32 (s.x : Int))) [(0, 0), (1, 0), (2, 1), (3, 0), (4, 1), (5, 0), (6, 1), (9, 0), (10, 0), (11, 0), (12, 1), (13, 0), (14, 1), (15, 0), (7, 2), (8, 0), (16, 2), (17, 0), (18, 0)] rfl (by kernel_rfl) ?hSSt ?hTSt
                      case hSSt => exact ⟨D1.out, D2.out, D3.out⟩
                      refine wpT_pureD (v := ?_) (some 139) rfl rfl (by rfl) (fun w' => ?_) ?_
                      rotate_left
                      · (go_simp; try with_reducible rfl)
                      try simp only [Act.put, List.setIfInBounds_toArray, List.set_cons_zero, List.set_cons_succ]
                      refine wpT_pureD (v := ?_) (some 140) rfl rfl (by rfl) (fun w' => ?_) ?_
                      rotate_left
                      · (go_simp; try with_reducible rfl)
                      try simp only [Act.put, List.setIfInBounds_toArray, List.set_cons_zero, List.set_cons_succ]
                      refine wpT_readD (v := ?_) (some 141) rfl rfl (by rfl) (fun w' hw => ?_) ?_
                      rotate_left
                      · (obtain ⟨q0, q1, q2⟩ := hw; go_simp; try with_reducible rfl)
                      try simp only [Act.put, List.setIfInBounds_toArray, List.set_cons_zero, List.set_cons_succ]
                      refine wpT_pureD (v := ?_) (some 142) rfl rfl (by rfl) (fun w' => ?_) ?_
                      rotate_left
                      · (go_simp; try with_reducible rfl)
                      try simp only [Act.put, List.setIfInBounds_toArray, List.set_cons_zero, List.set_cons_succ]
                      refine wpT_readD (v := ?_) (some 143) rfl rfl (by rfl) (fun w' hw => ?_) ?_
                      rotate_left
                      · (obtain ⟨q0, q1, q2⟩ := hw; go_simp; try with_reducible rfl)
                      try simp only [Act.put, List.setIfInBounds_toArray, List.set_cons_zero, List.set_cons_succ]
                      refine wpT_pureD (v := ?_) (some 144) rfl rfl (by rfl) (fun w' => ?_) ?_
                      rotate_left
                      · (go_simp; try with_reducible rfl)
                      try simp only [Act.put, List.setIfInBounds_toArray, List.set_cons_zero, List.set_cons_succ]
                      refine wpT_readD (v := ?_) (some 145) rfl rfl (by rfl) (fun w' hw => ?_) ?_
                      rotate_left
                      · (obtain ⟨q0, q1, q2⟩ := hw; go_simp; try with_reducible rfl)
                      try simp only [Act.put, List.setIfInBounds_toArray, List.set_cons_zero, List.set_cons_succ]
                      refine wpT_pureD (v := ?_) (some 148) rfl rfl (by rfl) (fun w' => ?_) ?_
                      rotate_left
                      · (go_simp; try with_reducible rfl)
                      try simp only [Act.put, List.setIfInBounds_toArray, List.set_cons_zero, List.set_cons_succ]
                      refine wpT_pureD (v := ?_) (some 149) rfl rfl (by rfl) (fun w' => ?_) ?_
                      rotate_left
                      · (go_simp; try with_reducible rfl)
                      try simp only [Act.put, List.setIfInBounds_toArray, List.set_cons_zero, List.set_cons_succ]
                      refine wpT_pureD (v := ?_) (some 150) rfl rfl (by rfl) (fun w' => ?_) ?_
                      rotate_left
                      · (go_simp; try with_reducible rfl)
                      try simp only [Act.put, List.setIfInBounds_toArray, List.set_cons_zero, List.set_cons_succ]
                      refine wpT_readD (v := ?_) (some 151) rfl rfl (by rfl) (fun w' hw => ?_) ?_
                      rotate_left
                      · (obtain ⟨q0, q1, q2⟩ := hw; go_simp; try with_reducible rfl)
                      try simp only [Act.put, List.setIfInBounds_toArray, List.set_cons_zero, List.set_cons_succ]
                      refine wpT_pureD (v := ?_) (some 152) rfl rfl (by rfl) (fun w' => ?_) ?_
                      rotate_left
                      · (go_simp; try with_reducible rfl)
                      try simp only [Act.put, List.setIfInBounds_toArray, List.set_cons_zero, List.set_cons_succ]
                      refine wpT_readD (v := ?_) (some 153) rfl rfl (by rfl) (fun w' hw => ?_) ?_
                      rotate_left
                      · (obtain ⟨q0, q1, q2⟩ := hw; go_simp; try with_reducible rfl)
                      try simp only [Act.put, List.setIfInBounds_toArray, List.set_cons_zero, List.set_cons_succ]
                      refine wpT_pureD (v := ?_) (some 154) rfl rfl (by rfl) (fun w' => ?_) ?_
                      rotate_left
                      · (go_simp; try with_reducible rfl)
                      try simp only [Act.put, List.setIfInBounds_toArray, List.set_cons_zero, List.set_cons_succ]
                      refine wpT_eff rfl (by rfl) (fun K hK => ?_)
                      go_wp2_with fail
                      refine HP1.out.mono ?_
                      rintro e w4 ⟨rfl, hr4, hc4⟩
                      have HR4 := Lib.hid hr4
                      have HC4 := Lib.hid hc4
                      have HV4 : Hid (w4.row? B = some (CaC s).toArray) := Lib.hid ((hc4.row (row_lt HRD.out) (by simpa using HBN.out.1)).trans HRD.out)
                      clear hr4 hc4
                      go_wp2_with fail
                      refine hK _ _ (by refine ⟨?_, ?_, ?_⟩ <;> (rw [row_cell HV4.out]; rfl)) ?_
                      clear hK K
                      try simp only [Act.put, List.setIfInBounds_toArray, List.set_cons_zero, List.set_cons_succ]
                      refine wpT_pureD (v := ?_) (some 147) rfl rfl (by rfl) (fun w' => ?_) ?_
                      rotate_left
                      · (go_simp; try with_reducible rfl)
                      try simp only [Act.put, List.setIfInBounds_toArray, List.set_cons_zero, List.set_cons_succ]
                      refine wpT_eff rfl (by rfl) (fun K hK => ?_)
                      have HR2 := rstore_all (n := s.n) (x := s.x) (a := s.ad) (HBD.out.ram.keep HC4.out (by simpa using HBZ.out.ne1.symm) (by simpa using HBZ.out.ne2.symm)) HSZ.out.ad HSZ.out.x (by have := HNN.out; have := HK2.out; have := HN.out; omega)
                      rw [← HQ.out] at HR2
                      have HR2 := Lib.hid HR2
                      go_wp2_with fail
                      first | rw [HWX.out] | rw [HWX2.out]
                      refine HR2.out.mono ?_
                      rintro e w5 ⟨rfl, ⟨N5, hN5, hR5⟩, hc5⟩
                      have HB5 : Hid (Both X w5 mb2 pp m N5 (stV f s.ad s.n s.x)) := Lib.hid (HBD.out.wrote HC4.out HR4.out hc5 hR5 (stV_lt HBZ.out.byt _ _ _))
                      have HRV : Hid (w5.row? B = some (CaC s).toArray) := Lib.hid ((hc5.row (row_lt HV4.out) (by simpa using HBN.out.2.2)).trans HV4.out)
                      have HN5 := Lib.hid hN5
                      clear hc5 hR5 hN5 HR2
                      go_wp2_with fail
                      refine hK _ _ (by refine ⟨?_, ?_, ?_⟩ <;> (rw [row_cell HRV.out]; rfl)) ?_
                      clear hK K
                      try simp only [Act.put, List.setIfInBounds_toArray, List.set_cons_zero, List.set_cons_succ]
                      refine wpT_pureD (v := ?_) (some 156) rfl rfl (by rfl) (fun w' => ?_) ?_
                      rotate_left
                      · (go_simp; try with_reducible rfl)
                      try simp only [Act.put, List.setIfInBounds_toArray, List.set_cons_zero, List.set_cons_succ]
                      refine wpT_pureD (v := ?_) (some 11) rfl rfl (by rfl) (fun w' => ?_) ?_
                      rotate_left
                      · (go_simp; try with_reducible rfl)
                      try simp only [Act.put, List.setIfInBounds_toArray, List.set_cons_zero, List.set_cons_succ]
                      refine wpT_end ?_
                      go_wp2_with fail
                      go_meet
                      exact ⟨mb2, N5, _, rfl, rfl, by have := HN5.out; omega, HB5.out, HRV.out⟩
                    case false =>
                      go_wp2_with fail
                      refine wp_region_C (fun w' => w'.cell? ⟨B, 1, none⟩ = some (.int .u32 (s.ad : Int)) ∧ w'.cell? ⟨B, 2, none⟩ = some (.int .i64 s.n) ∧ w'.cell? ⟨B, 3, none⟩ = some (.int .u32 (s.x : Int))) [(0, 0), (1, 0), (2, 1), (3, 0), (4, 1), (5, 0), (6, 1), (9, 0), (10, 0), (11, 0), (12, 1), (13, 0), (14, 1), (15, 0), (7, 2), (8, 0), (16, 2), (17, 0), (18, 0)] rfl (by kernel_rfl) ?hSSf ?hTSf
                      case hSSf => exact ⟨D1.out, D2.out, D3.out⟩
                      refine wpT_pureD (v := ?_) (some 139) rfl rfl (by rfl) (fun w' => ?_) ?_
                      rotate_left
                      · (go_simp; try with_reducible rfl)
                      try simp only [Act.put, List.setIfInBounds_toArray, List.set_cons_zero, List.set_cons_succ]
                      refine wpT_pureD (v := ?_) (some 140) rfl rfl (by rfl) (fun w' => ?_) ?_
                      rotate_left
                      · (go_simp; try with_reducible rfl)
                      try simp only [Act.put, List.setIfInBounds_toArray, List.set_cons_zero, List.set_cons_succ]
                      refine wpT_readD (v := ?_) (some 141) rfl rfl (by rfl) (fun w' hw => ?_) ?_
                      rotate_left
                      · (obtain ⟨q0, q1, q2⟩ := hw; go_simp; try with_reducible rfl)
                      try simp only [Act.put, List.setIfInBounds_toArray, List.set_cons_zero, List.set_cons_succ]
                      refine wpT_pureD (v := ?_) (some 142) rfl rfl (by rfl) (fun w' => ?_) ?_
                      rotate_left
                      · (go_simp; try with_reducible rfl)
                      try simp only [Act.put, List.setIfInBounds_toArray, List.set_cons_zero, List.set_cons_succ]
                      refine wpT_readD (v := ?_) (some 143) rfl rfl (by rfl) (fun w' hw => ?_) ?_
                      rotate_left
                      · (obtain ⟨q0, q1, q2⟩ := hw; go_simp; try with_reducible rfl)
                      try simp only [Act.put, List.setIfInBounds_toArray, List.set_cons_zero, List.set_cons_succ]
                      refine wpT_pureD (v := ?_) (some 144) rfl rfl (by rfl) (fun w' => ?_) ?_
                      rotate_left
                      · (go_simp; try with_reducible rfl)
                      try simp only [Act.put, List.setIfInBounds_toArray, List.set_cons_zero, List.set_cons_succ]
                      refine wpT_readD (v := ?_) (some 145) rfl rfl (by rfl) (fun w' hw => ?_) ?_
                      rotate_left
                      · (obtain ⟨q0, q1, q2⟩ := hw; go_simp; try with_reducible rfl)
                      try simp only [Act.put, List.setIfInBounds_toArray, List.set_cons_zero, List.set_cons_succ]
                      refine wpT_pureD (v := ?_) (some 148) rfl rfl (by rfl) (fun w' => ?_) ?_
                      rotate_left
                      · (go_simp; try with_reducible rfl)
                      try simp only [Act.put, List.setIfInBounds_toArray, List.set_cons_zero, List.set_cons_succ]
                      refine wpT_pureD (v := ?_) (some 149) rfl rfl (by rfl) (fun w' => ?_) ?_
                      rotate_left
                      · (go_simp; try with_reducible rfl)
                      try simp only [Act.put, List.setIfInBounds_toArray, List.set_cons_zero, List.set_cons_succ]
                      refine wpT_pureD (v := ?_) (some 150) rfl rfl (by rfl) (fun w' => ?_) ?_
                      rotate_left
                      · (go_simp; try with_reducible rfl)
                      try simp only [Act.put, List.setIfInBounds_toArray, List.set_cons_zero, List.set_cons_succ]
                      refine wpT_readD (v := ?_) (some 151) rfl rfl (by rfl) (fun w' hw => ?_) ?_
                      rotate_left
                      · (obtain ⟨q0, q1, q2⟩ := hw; go_simp; try with_reducible rfl)
                      try simp only [Act.put, List.setIfInBounds_toArray, List.set_cons_zero, List.set_cons_succ]
                      refine wpT_pureD (v := ?_) (some 152) rfl rfl (by rfl) (fun w' => ?_) ?_
                      rotate_left
                      · (go_simp; try with_reducible rfl)
                      try simp only [Act.put, List.setIfInBounds_toArray, List.set_cons_zero, List.set_cons_succ]
                      refine wpT_readD (v := ?_) (some 153) rfl rfl (by rfl) (fun w' hw => ?_) ?_
                      rotate_left
                      · (obtain ⟨q0, q1, q2⟩ := hw; go_simp; try with_reducible rfl)
                      try simp only [Act.put, List.setIfInBounds_toArray, List.set_cons_zero, List.set_cons_succ]
                      refine wpT_pureD (v := ?_) (some 154) rfl rfl (by rfl) (fun w' => ?_) ?_
                      rotate_left
                      · (go_simp; try with_reducible rfl)
                      try simp only [Act.put, List.setIfInBounds_toArray, List.set_cons_zero, List.set_cons_succ]
                      refine wpT_eff rfl (by rfl) (fun K hK => ?_)
                      go_wp2_with fail
                      refine HP1.out.mono ?_
                      rintro e w4 ⟨rfl, hr4, hc4⟩
                      have HR4 := Lib.hid hr4
                      have HC4 := Lib.hid hc4
                      have HV4 : Hid (w4.row? B = some (CaC s).toArray) := Lib.hid ((hc4.row (row_lt HRD.out) (by simpa using HBN.out.1)).trans HRD.out)
                      clear hr4 hc4
                      go_wp2_with fail
                      refine hK _ _ (by refine ⟨?_, ?_, ?_⟩ <;> (rw [row_cell HV4.out]; rfl)) ?_
                      clear hK K
                      try simp only [Act.put, List.setIfInBounds_toArray, List.set_cons_zero, List.set_cons_succ]
                      refine wpT_pureD (v := ?_) (some 147) rfl rfl (by rfl) (fun w' => ?_) ?_
                      rotate_left
                      · (go_simp; try with_reducible rfl)
                      try simp only [Act.put, List.setIfInBounds_toArray, List.set_cons_zero, List.set_cons_succ]
                      refine wpT_eff rfl (by rfl) (fun K hK => ?_)
                      have HR2 := rstore_all (n := s.n) (x := s.x) (a := s.ad) (HBD.out.ram.keep HC4.out (by simpa using HBZ.out.ne1.symm) (by simpa using HBZ.out.ne2.symm)) HSZ.out.ad HSZ.out.x (by have := HNN.out; have := HK2.out; have := HN.out; omega)
                      rw [← HQ.out] at HR2
                      have HR2 := Lib.hid HR2
                      go_wp2_with fail
                      first | rw [HWX.out] | rw [HWX2.out]
                      refine HR2.out.mono ?_
                      rintro e w5 ⟨rfl, ⟨N5, hN5, hR5⟩, hc5⟩
                      have HB5 : Hid (Both X w5 mb2 pp m N5 (stV f s.ad s.n s.x)) := Lib.hid (HBD.out.wrote HC4.out HR4.out hc5 hR5 (stV_lt HBZ.out.byt _ _ _))
                      have HRV : Hid (w5.row? B = some (CaC s).toArray) := Lib.hid ((hc5.row (row_lt HV4.out) (by simpa using HBN.out.2.2)).trans HV4.out)
                      have HN5 := Lib.hid hN5
                      clear hc5 hR5 hN5 HR2
                      go_wp2_with fail
                      refine hK _ _ (by refine ⟨?_, ?_, ?_⟩ <;> (rw [row_cell HRV.out]; rfl)) ?_
                      clear hK K
                      try simp only [Act.put, List.setIfInBounds_toArray, List.set_cons_zero, List.set_cons_succ]
                      refine wpT_pureD (v := ?_) (some 156) rfl rfl (by rfl) (fun w' => ?_) ?_
                      rotate_left
                      · (go_simp; try with_reducible rfl)
                      try simp only [Act.put, List.setIfInBounds_toArray, List.set_cons_zero, List.set_cons_succ]
                      refine wpT_pureD (v := ?_) (some 11) rfl rfl (by rfl) (fun w' => ?_) ?_
                      rotate_left
                      · (go_simp; try with_reducible rfl)
                      try simp only [Act.put, List.setIfInBounds_toArray, List.set_cons_zero, List.set_cons_succ]
                      refine wpT_end ?_
                      go_wp2_with fail
                      go_meet
                      exact ⟨mb2, N5, _, rfl, rfl, by have := HN5.out; omega, HB5.out, HRV.out⟩
                  · skip
                    by_cases k4 : s.kd = 4
                    · have b4 : (s.kd == 4) = true := beq_iff_eq.2 k4
                      have b0 : (s.kd == 0) = false := beq_eq_false_iff_ne.2 k0
                      have b1 : (s.kd == 1) = false := beq_eq_false_iff_ne.2 k1
                      have b2 : (s.kd == 2) = false := beq_eq_false_iff_ne.2 k2'
                      have b3 : (s.kd == 3) = false := beq_eq_false_iff_ne.2 k3
                      clear k0 k1 k2' k3 k4
                      have d3 : Z.cell? ⟨B, 3, none⟩ = some (.int .u32 (s.x : Int)) := by rw [row_cell HRZ.out]; rfl
                      obtain ⟨nb, hnb⟩ : ∃ nb, nb = Z.heap.size := ⟨_, rfl⟩
                      have HNB := Lib.hid hnb
                      have HP1 := copy_ok HBZ.out.row
                      rw [← hnb] at HP1
                      have HP1 := Lib.hid HP1
                      clear hnb
                      go_wp2_with fail
                      refine HP1.out.mono ?_
                      rintro e w4 ⟨rfl, hw4⟩
                      have HR4 : Hid (w4.row? nb = some (mem f)) := Lib.hid (by rw [hw4, HNB.out]; exact row_alloc_at _ _ _ _ rfl)
                      have HC4 : Hid (Chg [] Z w4) := Lib.hid (by rw [hw4]; exact (Chg.refl _ _).alloc _)
                      have HV4 : Hid (w4.row? B = some (CaC s).toArray) := Lib.hid ((HC4.out.row (row_lt HRZ.out) (by simp)).trans HRZ.out)
                      clear hw4 HP1 d3
                      have d3 : w4.cell? ⟨B, 3, none⟩ = some (.int .u32 (s.x : Int)) := by rw [row_cell HV4.out]; rfl
                      have HR2 := Lib.hid (store_all (w := w4) (n := 4) (x := s.x) (a := 2147483648) (HBZ.out.keep HC4.out).row (by decide) HSZ.out.x)
                      go_wp2_with fail
                      refine HR2.out.mono ?_
                      rintro e w5 ⟨rfl, hr5, hc5⟩
                      have HB5 : Hid (Both X w5 nb pp m N f) := Lib.hid (HBZ.out.copied HC4.out HR4.out (Nat.le_of_eq HNB.out.symm) hc5)
                      have HRV : Hid (w5.row? B = some (CaC s).toArray) := Lib.hid ((hc5.row (row_lt HV4.out) (by simpa using HBN.out.1)).trans HV4.out)
                      clear hr5 hc5 HR2 d3
                      go_wp2_with fail
                      go_meet
                      exact ⟨nb, N, f, rfl, rfl, by omega, HB5.out, HRV.out⟩
                    · have b0 : (s.kd == 0) = false := beq_eq_false_iff_ne.2 k0
                      have b1 : (s.kd == 1) = false := beq_eq_false_iff_ne.2 k1
                      have b2 : (s.kd == 2) = false := beq_eq_false_iff_ne.2 k2'
                      have b3 : (s.kd == 3) = false := beq_eq_false_iff_ne.2 k3
                      have b4 : (s.kd == 4) = false := beq_eq_false_iff_ne.2 k4
                      clear k0 k1 k2' k3 k4
                      go_wp2_with fail
                      go_meet
                      exact ⟨mb2, N, f, rfl, rfl, by omega, HBZ.out, HRZ.out⟩
          case rest =>
            obtain ⟨mb3, N', f', rfl, rfl, hN', hb', hr'⟩ := hcut
            have HBW := Lib.hid hb'
            have HRV := Lib.hid hr'
            have HN' := Lib.hid hN'
            clear hb' hr' hN' d0
            have E1 : Hid (wc.cell? ⟨B, 1, none⟩ = some (.int .u32 (s.ad : Int))) := Lib.hid (by rw [row_cell HRV.out]; rfl)
            have E3 : Hid (wc.cell? ⟨B, 3, none⟩ = some (.int .u32 (s.x : Int))) := Lib.hid (by rw [row_cell HRV.out]; rfl)
            go_wp2_with fail
            refine wp_region_C (fun w' => w'.cell? ⟨B, 1, none⟩ = some (.int .u32 (s.ad : Int)) ∧ w'.cell? ⟨B, 3, none⟩ = some (.int .u32 (s.x : Int))) [(0, 0), (1, 0), (2, 0), (3, 0), (4, 0), (5, 1), (6, 0), (7, 1), (8, 0), (9, 0), (10, 0), (11, 1), (12, 0), (13, 0), (14, 0), (15, 0)] rfl (by kernel_rfl) ?hSW ?hTW
            case hSW => exact ⟨E1.out, E3.out⟩
            refine wpT_pureD (v := ?_) (some 166) rfl rfl (by rfl) (fun w' => ?_) ?_
            rotate_left
            · (go_simp; try with_reducible rfl)
            try simp only [Act.put, List.setIfInBounds_toArray, List.set_cons_zero, List.set_cons_succ]
            refine wpT_pureD (v := ?_) (some 167) rfl rfl (by rfl) (fun w' => ?_) ?_
            rotate_left
            · (go_simp; try with_reducible rfl)
            try simp only [Act.put, List.setIfInBounds_toArray, List.set_cons_zero, List.set_cons_succ]
            refine wpT_pureD (v := ?_) (some 168) rfl rfl (by rfl) (fun w' => ?_) ?_
            rotate_left
            · (go_simp; try with_reducible rfl)
            try simp only [Act.put, List.setIfInBounds_toArray, List.set_cons_zero, List.set_cons_succ]
            refine wpT_pureD (v := ?_) (some 169) rfl rfl (by rfl) (fun w' => ?_) ?_
            rotate_left
            · (go_simp; try with_reducible rfl)
            try simp only [Act.put, List.setIfInBounds_toArray, List.set_cons_zero, List.set_cons_succ]
            refine wpT_pureD (v := ?_) (some 170) rfl rfl (by rfl) (fun w' => ?_) ?_
            rotate_left
            · (go_simp; try with_reducible rfl)
            try simp only [Act.put, List.setIfInBounds_toArray, List.set_cons_zero, List.set_cons_succ]
            refine wpT_readD (v := ?_) (some 171) rfl rfl (by rfl) (fun w' hw => ?_) ?_
            rotate_left
            · (obtain ⟨q0, q1⟩ := hw; go_simp; try with_reducible rfl)
            try simp only [Act.put, List.setIfInBounds_toArray, List.set_cons_zero, List.set_cons_succ]
            refine wpT_pureD (v := ?_) (some 172) rfl rfl (by rfl) (fun w' => ?_) ?_
            rotate_left
            · (go_simp; try with_reducible rfl)
            try simp only [Act.put, List.setIfInBounds_toArray, List.set_cons_zero, List.set_cons_succ]
            refine wpT_readD (v := ?_) (some 173) rfl rfl (by rfl) (fun w' hw => ?_) ?_
            rotate_left
            · (obtain ⟨q0, q1⟩ := hw; go_simp; try with_reducible rfl)
            try simp only [Act.put, List.setIfInBounds_toArray, List.set_cons_zero, List.set_cons_succ]
            refine wpT_call (d := some 174) (f := 19) (args := #[.pointer (some ⟨mb3, 0, none⟩), .int .u32 (s.ad : Int), .int .u32 (s.x : Int)]) (v := .bool (inRam s.ad s.x)) rfl rfl (by rfl) (fun w' => by first | rfl | (go_simp; done) | (go_simp; rfl)) (fun w' => has_any s.ad s.x HSZ.out.ad HSZ.out.x _ w') ?_
            try simp only [Act.put, List.setIfInBounds_toArray, List.set_cons_zero, List.set_cons_succ]
            try simp only [Act.put, List.setIfInBounds_toArray, List.set_cons_zero, List.set_cons_succ]
            refine wpT_pureD (v := ?_) (some 175) rfl rfl (by rfl) (fun w' => ?_) ?_
            rotate_left
            · (go_simp; try with_reducible rfl)
            try simp only [Act.put, List.setIfInBounds_toArray, List.set_cons_zero, List.set_cons_succ]
            refine wpT_pureD (v := ?_) (some 176) rfl rfl (by rfl) (fun w' => ?_) ?_
            rotate_left
            · (go_simp; try with_reducible rfl)
            try simp only [Act.put, List.setIfInBounds_toArray, List.set_cons_zero, List.set_cons_succ]
            refine wpT_readD (v := ?_) (some 177) rfl rfl (by rfl) (fun w' hw => ?_) ?_
            rotate_left
            · (obtain ⟨q0, q1⟩ := hw; go_simp; try with_reducible rfl)
            try simp only [Act.put, List.setIfInBounds_toArray, List.set_cons_zero, List.set_cons_succ]
            refine wpT_pureD (v := ?_) (some 178) rfl rfl (by rfl) (fun w' => ?_) ?_
            rotate_left
            · (go_simp; try with_reducible rfl)
            try simp only [Act.put, List.setIfInBounds_toArray, List.set_cons_zero, List.set_cons_succ]
            refine wpT_call (d := some 179) (f := 20) (args := #[.int .i64 (s.ad : Int), .int .i64 (s.x : Int)]) (v := .bool (inRam s.ad s.x)) rfl rfl (by rfl) (fun w' => by go_simp; first | exact ⟨HWA.out, HWX2.out⟩ | exact HWX2.out) (fun w' => rhas_any s.ad s.x (by have := HSZ.out.ad; omega) (by have := HSZ.out.x; omega) w') ?_
            try simp only [Act.put, List.setIfInBounds_toArray, List.set_cons_zero, List.set_cons_succ]
            try simp only [Act.put, List.setIfInBounds_toArray, List.set_cons_zero, List.set_cons_succ]
            refine wpT_pureD (v := ?_) (some 180) rfl rfl (by rfl) (fun w' => ?_) ?_
            rotate_left
            · (go_simp; try with_reducible rfl)
            try simp only [Act.put, List.setIfInBounds_toArray, List.set_cons_zero, List.set_cons_succ]
            refine wpT_pureD (v := ?_) (some 181) rfl rfl (by rfl) (fun w' => ?_) ?_
            rotate_left
            · (go_simp; try with_reducible rfl)
            try simp only [Act.put, List.setIfInBounds_toArray, List.set_cons_zero, List.set_cons_succ]
            refine wpT_end ?_
            generalize inRam s.ad s.x = ir
            go_wp2
            case roundEnd => exact ⟨⟨k2 + 1, mb3, N', f', HKN.out, by rw [HW.out], rfl, by have := HNN.out; have := HN'.out; omega, HBW.out.keep (Chg.refl [] wc).drew⟩, by rw [HW.out]; simp only [intOf, Int.toNat_natCast]; have := HKN.out; omega⟩
        · have dI : ¬ (k2 : Int) < (n : Int) := by omega
          clear hkn
          go_wp2_with fail
          refine (like_any HBO.out.row HBO.out.ram).mono ?_
          rintro e w4 ⟨rfl, hc4⟩
          have HC4 := Lib.hid hc4
          clear hc4
          go_wp2
          go_ret
          exact ⟨rfl, HBO.out.chg.trans HC4.out⟩
end Go.Proofs.L
