/- Proved here: lemmas and contracts (RefSum) for the laws of this seat, for all values of the stated types; no further condition. -/
import Derived.Test.YtaoocfemgkjcnaaDoorRefRounds
import Derived.Laws.AppendOwnNone
open Go Go.RowKit Go.Lib
namespace Go.Proofs.L
attribute [local irreducible] wpT
set_option maxRecDepth 100000 in
set_option maxHeartbeats 40000000 in
theorem refSum_any {W : World} {pp : Option Addr} {b1 o1 k c : Nat} {L : List Nat} (hB : BytesAt W b1 o1 L) (hk : L.length = k) (hp : 0 < k → pp = some ⟨b1, o1, none⟩) (hpn : pp = none → c = 0) (hk2 : k < 1000000)
    (hr3 : outAt 3 312 = addsL) (hr2 : outAt 2 20 = h0L) :
    Calls Tryd.prog 8 #[.slice pp k c] W fun e w' => e = .returned (.agg (natL .u8 (refN L)).toArray) ∧ Chg [] W w' := by
  obtain ⟨V, hV⟩ : ∃ V, V = W.alloc (.cells z32 24) := ⟨_, rfl⟩
  obtain ⟨B, hB2⟩ : ∃ B, B = W.heap.size := ⟨_, rfl⟩
  have r1 : V.row? B = some z32 := by rw [hV, hB2]; exact row_alloc_at _ _ _ _ rfl
  have hc : Chg [] W V := by rw [hV]; exact (Chg.refl _ _).alloc _
  have HR1 := Lib.hid r1
  have HC := Lib.hid hc
  have HB := Lib.hid hB2
  have HBY : Hid (BytesAt V b1 o1 L) := Lib.hid (hB.keep hc (by simp))
  have HK := Lib.hid hk
  have HK2 := Lib.hid hk2
  have HP := Lib.hid hp
  have HPN := Lib.hid hpn
  have HR3 := Lib.hid hr3
  have HR2 := Lib.hid hr2
  have HV : Hid (V = W.alloc (.cells #[.int .u8 0, .int .u8 0, .int .u8 0, .int .u8 0, .int .u8 0, .int .u8 0, .int .u8 0, .int .u8 0, .int .u8 0, .int .u8 0, .int .u8 0, .int .u8 0, .int .u8 0, .int .u8 0, .int .u8 0, .int .u8 0, .int .u8 0, .int .u8 0, .int .u8 0, .int .u8 0, .int .u8 0, .int .u8 0, .int .u8 0, .int .u8 0, .int .u8 0, .int .u8 0, .int .u8 0, .int .u8 0, .int .u8 0, .int .u8 0, .int .u8 0, .int .u8 0] 24)) := Lib.hid (by rw [hV]; rfl)
  clear hB hV hB2 r1 hc hk hk2 hp hpn hr3 hr2
  go_enter Tryd.func8, Tryd.ntmps8
  go_upto_region 1 with (fail)
  rw [← HB.out, ← HV.out]
  clear HV
  go_wp2_with fail
  refine (roots_any V 64 3 312 (by rw [HR3.out]; rfl) (by decide) (by decide) (by decide) (by decide)).mono ?_
  rintro e ww1 ⟨va, rfl, hoA, hc1⟩
  rw [HR3.out, show addsL.length = 64 from rfl] at hoA
  obtain ⟨pa, ca, rfl, hga⟩ := own_form hoA
  obtain ⟨ga, rfl, _⟩ := hga (by decide)
  have HOA := Lib.hid hoA
  have HC1 := Lib.hid hc1
  clear hoA hc1 hga
  go_wp2_with fail
  refine (roots_any ww1 8 2 20 (by rw [HR2.out]; rfl) (by decide) (by decide) (by decide) (by decide)).mono ?_
  rintro e ww2 ⟨vh, rfl, hoH, hc2⟩
  rw [HR2.out, show h0L.length = 8 from rfl] at hoH
  obtain ⟨ph, ch, rfl, hgh⟩ := own_form hoH
  obtain ⟨gh, rfl, _⟩ := hgh (by decide)
  have HOH := Lib.hid hoH
  have HC2 := Lib.hid hc2
  have HCW2 : Hid (Chg [] V ww2) := Lib.hid (HC1.out.trans hc2)
  clear hoH hc2 hgh
  have HBY2 : Hid (BytesAt ww2 b1 o1 L) := Lib.hid (HBY.out.keep HCW2.out (by simp))
  go_wp2_with (at_builtin; refine app_src rfl _ _ 22 5 .u8 1 rfl Tryd.underlying22 info5 (by decide) ww2.heap.size (.slice none 0 0) 0 [] rfl (World.ownsRow_nil _ _ _ _) pp k c L rfl HK.out (fun h => ⟨by have := HP.out; by_cases h0 : 0 < k; (have := this h0; rw [h] at this; cases this); omega, HPN.out h⟩) (fun ad h j y hj => by
    have h0 : 0 < k := by have := (List.getElem?_eq_some_iff.1 hj).1; have := HK.out; omega
    have h1 := HP.out h0
    rw [h] at h1
    obtain rfl := Option.some.inj h1
    rw [addr_add]
    exact (HBY2.out j y hj).1) (by have := HK2.out; omega) (Nat.le_refl _) ?_)
  intro v1 w3 hx1 hx2
  try rw [List.nil_append, Nat.zero_add] at hx1
  obtain ⟨X, hX⟩ : ∃ X, X = w3.alloc (.cells #[.int .u8 128] 5) := ⟨_, rfl⟩
  obtain ⟨b3, hb3⟩ : ∃ b, b = w3.heap.size := ⟨_, rfl⟩
  have hc3 : Chg [] ww2 w3 := chg_grown (Chg.refl _ _) hx2 (fun x hx => by cases hx)
  have HCX : Hid (Chg [] ww2 X) := Lib.hid (by rw [hX]; exact hc3.alloc _)
  have HRX : Hid (X.row? b3 = some #[.int .u8 ((128 : Nat) : Int)]) := Lib.hid (by rw [hX]; exact row_alloc_at _ _ _ _ hb3)
  have HOX : Hid (X.ownsRow ww2.heap.size 5 1 v1 k (L.map fun x : Nat => Value.int .u8 (x : Int))) := Lib.hid (by rw [hX]; exact hx1.alloc _)
  have HX := Lib.hid hX
  have HB3 := Lib.hid hb3
  clear hx1 hx2 hc3 hX hb3
  go_wp2_with (at_builtin; rw [← HB3.out, ← HX.out]; refine app_nat rfl _ _ 22 5 .u8 1 rfl Tryd.underlying22 info5 (by decide) ww2.heap.size v1 k L rfl HOX.out b3 0 1 1 [128] rfl rfl (one_cell HRX.out) (by have := HK2.out; omega) HCX.out.size ?_)
  intro v2 w4 hx1 hx2
  have HC4 : Hid (Chg [] ww2 w4) := Lib.hid (chg_grown HCX.out hx2 (fun x hx => (HOX.out.lt x hx).1))
  obtain ⟨L1, hL1⟩ : ∃ L1, L1 = L ++ [128] := ⟨_, rfl⟩
  have HO4 : Hid (w4.ownsRow ww2.heap.size 5 1 v2 (k + 1) (L1.map fun x : Nat => Value.int .u8 (x : Int))) := Lib.hid (by rw [hL1, List.map_append]; exact hx1)
  clear hx1 hx2
  obtain ⟨K, hK⟩ : ∃ K, K = padK (k + 1) := ⟨_, rfl⟩
  have HL1 := Lib.hid hL1
  have HKK := Lib.hid hK
  clear hL1 hK
  go_wp2_with fail
  go_loopw [5] (fun v wr => ∃ j : Nat, j ≤ K ∧ wr.ownsRow ww2.heap.size 5 1 v (k + 1 + j) ((L1 ++ List.replicate j 0).map fun x : Nat => Value.int .u8 (x : Int)) ∧ Chg [] ww2 wr) (fun v _ => (120 - lenV v % 64) % 64)
  case atStart => exact ⟨0, by omega, by simpa using HO4.out, HC4.out⟩
  case round =>
    obtain ⟨j, hj, hown, hch⟩ := hrel
    have HO := Lib.hid hown
    have HCH := Lib.hid hch
    have HJ := Lib.hid hj
    clear hown hch hj
    obtain ⟨p5, c5, rfl, hg5⟩ := own_form HO.out
    obtain ⟨n, hn⟩ : ∃ n, n = k + 1 + j := ⟨_, rfl⟩
    rw [← hn] at HO
    rw [← hn]
    obtain ⟨m, hm⟩ : ∃ m, m = n % 64 := ⟨_, rfl⟩
    have e3 : (n : Int) % 64 = (m : Int) := by omega
    have e4 : (n : Int).tmod 64 = (m : Int) := by rw [Int.tmod_eq_emod_of_nonneg (by omega)]; exact e3
    have hpos : m ≠ 56 → j < K := fun e => by have := HJ.out; have := HKK.out; unfold padK at this; omega
    have hpos2 : m = 56 → j = K := fun e => by have := HJ.out; have := HKK.out; unfold padK at this; omega
    have HN := Lib.hid hn
    have HM := Lib.hid hm
    have HP1 := Lib.hid hpos
    have HP2 := Lib.hid hpos2
    clear hn hm hpos hpos2 hg5
    by_cases h56 : m = 56
    · have d2 : ((m : Int) != 56) = false := by rw [h56]; rfl
      have d3 : ((m : Int) == 56) = true := by rw [h56]; rfl
      have hjK := HP2.out h56
      have HO9 : Hid (wr.ownsRow ww2.heap.size 5 1 (.slice p5 n c5) n ((L1 ++ List.replicate K 0).map fun x : Nat => Value.int .u8 (x : Int))) := Lib.hid (by rw [← hjK]; exact HO.out)
      have HNK : Hid (n = k + 1 + K ∧ n % 64 = 56) := Lib.hid ⟨by rw [HN.out, hjK], by rw [← HM.out]; exact h56⟩
      clear hjK
      go_wp2_with fail
      obtain ⟨L2, hL2⟩ : ∃ L2, L2 = L1 ++ List.replicate K 0 := ⟨_, rfl⟩
      rw [← hL2] at HO9
      have HL2 := Lib.hid hL2
      have HCN : Hid (Chg [] ww2 wr) := HCH
      clear hL2 d2 d3 e3 e4 h56 HP1 HP2 HO HN HM HJ
      go_loopw [6, 5] (fun i v wq => ∃ s b : Nat, s + b = 8 ∧ i = .int .i64 ((b : Int) - 1) ∧ wq.ownsRow ww2.heap.size 5 1 v (n + s) ((L2 ++ (lenL k).take s).map fun x : Nat => Value.int .u8 (x : Int)) ∧ Chg [] ww2 wq) (fun i _ _ => (intOf i + 1).toNat)
      case atStart => exact ⟨0, 8, rfl, rfl, by simpa using HO9.out, HCN.out⟩
      case round =>
        obtain ⟨s, b, hsb, rfl, hown, hch⟩ := hrel
        have HO := Lib.hid hown
        have HCH2 := Lib.hid hch
        clear hown hch
        obtain ⟨p6, c6, rfl, hg6⟩ := own_form HO.out
        rcases b with _ | b
        · have e0 : ((0 : Nat) : Int) - 1 = -1 := rfl
          rw [e0]
          have hs8 : s = 8 := by omega
          obtain ⟨N, hN9⟩ : ∃ N, N = n + s := ⟨_, rfl⟩
          rw [← hN9] at HO hg6 ⊢
          obtain ⟨PL, hPL⟩ : ∃ PL, PL = padL L := ⟨_, rfl⟩
          have hfull : L2 ++ (lenL k).take s = PL := by rw [hs8, len8, HL2.out, HL1.out, hPL, HKK.out, ← HK.out]; rfl
          rw [hfull] at HO
          have HPL := Lib.hid hPL
          have HNN : Hid (N % 64 = 0 ∧ N < 2000000 ∧ PL.length = N) := Lib.hid (by
            have h1 := HNK.out
            have h2 := HK2.out
            have h3 := HKK.out
            unfold padK at h3
            have h4 := HO.out.1
            rw [List.length_map, Nat.mul_one] at h4
            exact ⟨by omega, by omega, h4⟩)
          have hN0 : 0 < N := by rw [hN9, HNK.out.1]; omega
          obtain ⟨gp, rfl, _⟩ := hg6 hN0
          clear hs8 hN9 hPL hfull hsb e0 hN0 hg6
          have HAT : Hid (NatAt wr .u64 ga addsL) := Lib.hid (((NatAt.of_own HOA.out rfl).keep HC2.out (by simp)).keep HCH2.out (by simp))
          have HPT : Hid (NatAt wr .u8 gp PL) := Lib.hid (NatAt.of_own HO.out rfl)
          have HHT : Hid (wr.ownsRow ww1.heap.size 36 1 (.slice (some ⟨gh, 0, none⟩) 8 ch) 8 (natL .u64 (hN PL 0))) := Lib.hid (ownsRow_chg HOH.out HCH2.out (by intro k _; simp))
          have HAP : Hid (ga ≠ gh ∧ gp ≠ gh ∧ W.heap.size ≤ ga ∧ W.heap.size ≤ gh ∧ W.heap.size ≤ gp ∧ B ≠ gh) := Lib.hid (by
            have a1 := HOA.out.lt ga rfl
            have a2 := HOH.out.lt gh rfl
            have a3 := HO.out.lt gp rfl
            have a4 := HC.out.size
            have a5 := HC1.out.size
            have a6 := row_lt HR1.out
            have a7 := HB.out
            refine ⟨by omega, by omega, by omega, by omega, by omega, by omega⟩)
          have HRB : Hid (wr.row? B = some z32) := Lib.hid (by rw [HCH2.out.row (by have := row_lt HR1.out; have := HCW2.out.size; omega) (by simp), HCW2.out.row (row_lt HR1.out) (by simp)]; exact HR1.out)
          have HPB : Hid (∀ x ∈ PL, x < 256) := Lib.hid (by rw [HPL.out]; exact padL_lt _ HBY.out.all)
          have HCW0 : Hid (Chg [] W wr) := Lib.hid ((HC.out.trans HCW2.out).trans HCH2.out)
          obtain ⟨nb, hnb⟩ : ∃ nb, N = 64 * nb := ⟨N / 64, by have := HNN.out; omega⟩
          have HNB := Lib.hid hnb
          clear hnb
          go_wp2_with fail
          go_loopw [7] (fun a wq => ∃ j a64 : Nat, a64 = 64 * j ∧ j ≤ nb ∧ a = .int .i64 (a64 : Int) ∧ wq.ownsRow ww1.heap.size 36 1 (.slice (some ⟨gh, 0, none⟩) 8 ch) 8 (natL .u64 (hN PL j)) ∧ Chg [gh] wr wq) (fun a _ => N - (intOf a).toNat)
          case atStart => exact ⟨0, 0, rfl, by omega, rfl, HHT.out, Chg.refl _ _⟩
          case round =>
            obtain ⟨j, a64, ha64, hjn, rfl, hown, hch⟩ := hrel
            have HOJ := Lib.hid hown
            have HCJ := Lib.hid hch
            have HJN := Lib.hid hjn
            have HA64 := Lib.hid ha64
            have HAJ : Hid (NatAt wr .u64 ga addsL) := Lib.hid (HAT.out.keep hch (by rw [List.mem_singleton]; exact HAP.out.1))
            have HPJ : Hid (NatAt wr .u8 gp PL) := Lib.hid (HPT.out.keep hch (by rw [List.mem_singleton]; exact HAP.out.2.1))
            clear hown hch hjn ha64 HAT HPT HHT
            by_cases hjb : j < nb
            · have HJB := Lib.hid hjb
              have haN : a64 < N := by have := HA64.out; have := HNB.out; omega
              have haI : (a64 : Int) < (N : Int) := by omega
              obtain ⟨cc, hcc⟩ : ∃ cc, cc = chunkN PL j := ⟨_, rfl⟩
              have HCL : Hid (cc.length = 64) := Lib.hid (by rw [hcc]; exact chunk_len PL j N HNN.out.2.2 (by have := HNB.out; omega))
              have HCB : Hid (∀ x ∈ cc, x < 256) := Lib.hid (by rw [hcc]; exact chunk_lt PL HPB.out j)
              have HCG : Hid (∀ t, t < 64 → cc.getD t 0 = PL.getD (a64 + t) 0) := Lib.hid (fun t ht => by rw [hcc, chunk_get PL j t ht, HA64.out])
              have HHJ : Hid (hN PL (j + 1) = blockN (hN PL j) cc) := Lib.hid (by rw [hcc]; rfl)
              have HAN := Lib.hid haN
              obtain ⟨X, hX⟩ : ∃ X, X = wr.alloc (.cells (natL .u64 (wsN cc 0)).toArray 37) := ⟨_, rfl⟩
              obtain ⟨T, hT⟩ : ∃ T, T = wr.heap.size := ⟨_, rfl⟩
              have hcX : Chg [] wr X := by rw [hX]; exact (Chg.refl _ _).alloc _
              have HCX : Hid (Chg [gh] wr X) := Lib.hid (chg_wide hcX (by simp))
              have HXC := Lib.hid hcX
              have HRT : Hid (X.row? T = some (natL .u64 (wsN cc 0)).toArray) := Lib.hid (by rw [hX]; exact row_alloc_at _ _ _ _ hT)
              have HOX : Hid (X.ownsRow ww1.heap.size 36 1 (.slice (some ⟨gh, 0, none⟩) 8 ch) 8 (natL .u64 (hN PL j))) := Lib.hid (by rw [hX]; exact HOJ.out.alloc _)
              have HAX : Hid (NatAt X .u64 ga addsL) := Lib.hid (HAJ.out.keep hcX (by simp))
              have HPX : Hid (NatAt X .u8 gp PL) := Lib.hid (HPJ.out.keep hcX (by simp))
              have HTN : Hid (T = wr.heap.size) := Lib.hid hT
              have HTG : Hid (ga ≠ T ∧ gp ≠ T ∧ gh ≠ T ∧ W.heap.size ≤ T) := Lib.hid (by
                have a1 := World.block_lt_of_cell? wr _ (HAJ.out 0 _ rfl)
                have a2 := World.block_lt_of_cell? wr _ (HPJ.out.get 0 _ (by rw [HNN.out.2.2]; have := HAN.out; omega) rfl)
                have a3 := (HOJ.out.lt gh rfl).2
                have a4 := HCJ.out.size
                have a5 := HCW0.out.size
                refine ⟨?_, ?_, ?_, ?_⟩ <;> first | omega | (intro h; rw [h] at a1; simp only [] at a1; omega) | (intro h; rw [h] at a2; simp only [] at a2; omega))
              have HX : Hid (X = wr.alloc (.cells #[.int .u64 0, .int .u64 0, .int .u64 0, .int .u64 0, .int .u64 0, .int .u64 0, .int .u64 0, .int .u64 0, .int .u64 0, .int .u64 0, .int .u64 0, .int .u64 0, .int .u64 0, .int .u64 0, .int .u64 0, .int .u64 0, .int .u64 0, .int .u64 0, .int .u64 0, .int .u64 0, .int .u64 0, .int .u64 0, .int .u64 0, .int .u64 0, .int .u64 0, .int .u64 0, .int .u64 0, .int .u64 0, .int .u64 0, .int .u64 0, .int .u64 0, .int .u64 0, .int .u64 0, .int .u64 0, .int .u64 0, .int .u64 0, .int .u64 0, .int .u64 0, .int .u64 0, .int .u64 0, .int .u64 0, .int .u64 0, .int .u64 0, .int .u64 0, .int .u64 0, .int .u64 0, .int .u64 0, .int .u64 0, .int .u64 0, .int .u64 0, .int .u64 0, .int .u64 0, .int .u64 0, .int .u64 0, .int .u64 0, .int .u64 0, .int .u64 0, .int .u64 0, .int .u64 0, .int .u64 0, .int .u64 0, .int .u64 0, .int .u64 0, .int .u64 0] 37)) := Lib.hid (by rw [hX]; rfl)
              clear hcc hX hT hcX hjb
              go_upto_region 14 with (fail)
              rw [← HX.out, ← HTN.out]
              clear HX haI haN
              go_wp2_with fail
              go_loopw [9] (fun i wq => ∃ i' : Nat, i' ≤ 64 ∧ i = .int .i64 i' ∧ wq.row? T = some (natL .u64 (wsN cc i')).toArray ∧ Chg [T] X wq) (fun i _ => 64 - (intOf i).toNat)
              case atStart => exact ⟨0, by omega, rfl, HRT.out, Chg.refl _ _⟩
              case round =>
                obtain ⟨i', hi', rfl, hri, hci⟩ := hrel
                have HRI := Lib.hid hri
                have HCI := Lib.hid hci
                have HI' := Lib.hid hi'
                clear hri hci hi'
                by_cases hi64 : i' < 64
                · have HI64 := Lib.hid hi64
                  have dI := ltI64 hi64
                  by_cases hi16 : i' < 16
                  · have HI16 := Lib.hid hi16
                    have dJ : (i' : Int) < 16 := by omega
                    obtain ⟨i4, hi4⟩ : ∃ z, z = 4 * i' := ⟨_, rfl⟩
                    have hrw : wr.row? T = some (natL .u64 (w1 cc i4)).toArray := by rw [HRI.out, wsN, if_pos (by omega), hi4]
                    have HWN : Hid (wsN cc (i' + 1) = w1 cc (i4 + 4)) := Lib.hid (by rw [wsN, if_pos (by omega), hi4]; rfl)
                    have HRW := Lib.hid hrw
                    have HI4 := Lib.hid hi4
                    clear hrw hi4
                    go_wp2_with fail
                    clear hi16 dJ
                    go_loopw [10] (fun k' wq => ∃ q : Nat, q ≤ 4 ∧ k' = .int .i64 q ∧ wq.row? T = some (natL .u64 (w1 cc (i4 + q))).toArray ∧ Chg [T] X wq) (fun k' _ => 4 - (intOf k').toNat)
                    case atStart => exact ⟨0, by omega, rfl, HRW.out, HCI.out⟩
                    case round =>
                      obtain ⟨q, hq, rfl, hrq, hcq⟩ := hrel
                      have HRQ := Lib.hid hrq
                      have HCQ := Lib.hid hcq
                      have HQ := Lib.hid hq
                      clear hrq hcq hq
                      by_cases hq4 : q < 4
                      · have HQ4 := Lib.hid hq4
                        have qI : (q : Int) < 4 := by omega
                        obtain ⟨a1, ha1⟩ : ∃ z, z = a64 + i4 := ⟨_, rfl⟩
                        obtain ⟨a2, ha2⟩ : ∃ z, z = a1 + q := ⟨_, rfl⟩
                        obtain ⟨t, ht⟩ : ∃ z, z = i4 + q := ⟨_, rfl⟩
                        have ht64 : t < 64 := by have := HI4.out; have := HI16.out; omega
                        have ht4 : t / 4 = i' := by have := HI4.out; omega
                        have ha2t : a2 = a64 + t := by omega
                        have ha2N : a2 < N := by have := HA64.out; have := HNB.out; have := HJB.out; omega
                        have hN2 : N < 2000000 := HNN.out.2.1
                        rw [← ht] at HRQ
                        obtain ⟨x, hx⟩ : ∃ z, z = (w1 cc t).getD i' 0 := ⟨_, rfl⟩
                        obtain ⟨cb, hcb⟩ : ∃ z, z = cc.getD t 0 := ⟨_, rfl⟩
                        have hxl : x < 16777216 := by rw [hx, ← ht4]; exact w1_lt24 cc HCB.out t
                        have hcbl : cb < 256 := by rw [hcb]; exact getD_lt HCB.out (by decide) t
                        have q1 : wr.cell? ⟨T, i', none⟩ = some (.int .u64 (x : Int)) := natL64_get _ i' x (by rw [w1_len]; have := HI64.out; omega) hx HRQ.out
                        have q2 : wr.cell? ⟨gp, a2, none⟩ = some (.int .u8 (cb : Int)) := (HPX.out.keep HCQ.out (by rw [List.mem_singleton]; exact HTG.out.2.1)).get a2 cb (by rw [HNN.out.2.2]; exact ha2N) (by rw [hcb, HCG.out t ht64, ha2t])
                        have f1 : wr.frozen? ⟨T, i', none⟩ = false := row_free HRQ.out _
                        obtain ⟨z1, hz1⟩ : ∃ z, z = x * 256 % 18446744073709551616 := ⟨_, rfl⟩
                        obtain ⟨z2, hz2⟩ : ∃ z, z = (z1 + cb) % 18446744073709551616 := ⟨_, rfl⟩
                        have HNW : Hid (w1 cc (i4 + (q + 1)) = (w1 cc t).set i' z2) := Lib.hid (by
                          rw [← Nat.add_assoc, ← ht]
                          show (w1 cc t).set (t / 4) _ = _
                          rw [ht4, ← hx, ← hcb, ← byte_or x cb hxl hcbl, ← hz1, ← hz2])
                        have i4I : 4 * (i' : Int) = (i4 : Int) := by have := HI4.out; omega
                        have a1I := addI ha1
                        have a2I := addI ha2
                        have a1l : a1 < 1000000000 := by omega
                        have a2l : a2 < 1000000000 := by omega
                        have i4l : i4 < 1000000000 := by have := HI4.out; have := HI16.out; omega
                        have a2B : (a2 : Int) < (N : Int) := by omega
                        have z9 : cb < 18446744073709551616 := by omega
                        have e1 := idw64 a1l
                        have e2 := idw64 a2l
                        have e3 := idw64 i4l
                        have e4 := idi64 a1l
                        have e5 := idi64 a2l
                        have e6 := idi64 i4l
                        have ww1' : IntKind.u64.wrap ((x : Int) * 256) = (z1 : Int) := wmul (b := 256) hz1
                        have ww2' := wadd hz2
                        have w3' : IntKind.u64.wrap (cb : Int) = (cb : Int) := widl z9
                        clear z9 ha1 ha2 ht ht64 ht4 ha2t hN2 hx hcb hxl hcbl hz1 hz2 a1l a2l i4l
                        go_upto_region 21 with (fail)
                        refine wp_region_C (fun w' => w'.cell? ⟨T, i', none⟩ = some (.int .u64 (x : Int)) ∧ w'.cell? ⟨gp, a2, none⟩ = some (.int .u8 (cb : Int))) [(0, 0), (1, 0), (2, 0), (3, 1), (4, 0), (5, 0), (6, 0), (7, 0), (8, 0), (9, 0), (10, 0), (11, 0), (12, 0), (13, 1), (14, 0), (15, 0), (16, 0), (17, 3)] rfl (by kernel_rfl) ?hSB ?hTB
                        case hSB => exact ⟨q1, q2⟩
                        refine wpT_pureD (v := ?_) (some 65) rfl rfl (by rfl) (fun w' => ?_) ?_
                        rotate_left
                        · (go_simp; try with_reducible rfl)
                        try simp only [Act.put, List.setIfInBounds_toArray, List.set_cons_zero, List.set_cons_succ]
                        refine wpT_pureD (v := ?_) (some 66) rfl rfl (by rfl) (fun w' => ?_) ?_
                        rotate_left
                        · (go_simp; try with_reducible rfl)
                        try simp only [Act.put, List.setIfInBounds_toArray, List.set_cons_zero, List.set_cons_succ]
                        refine wpT_pureD (v := ?_) (some 67) rfl rfl (by rfl) (fun w' => ?_) ?_
                        rotate_left
                        · (go_simp; try with_reducible rfl)
                        try simp only [Act.put, List.setIfInBounds_toArray, List.set_cons_zero, List.set_cons_succ]
                        refine wpT_readD (v := ?_) (some 68) rfl rfl (by rfl) (fun w' hw => ?_) ?_
                        rotate_left
                        · (obtain ⟨q0, q1⟩ := hw; go_simp; try with_reducible rfl)
                        try simp only [Act.put, List.setIfInBounds_toArray, List.set_cons_zero, List.set_cons_succ]
                        refine wpT_pureD (v := ?_) (some 69) rfl rfl (by rfl) (fun w' => ?_) ?_
                        rotate_left
                        · (go_simp; try with_reducible rfl)
                        try simp only [Act.put, List.setIfInBounds_toArray, List.set_cons_zero, List.set_cons_succ]
                        refine wpT_pureD (v := ?_) (some 70) rfl rfl (by rfl) (fun w' => ?_) ?_
                        rotate_left
                        · (go_simp; try with_reducible rfl)
                        try simp only [Act.put, List.setIfInBounds_toArray, List.set_cons_zero, List.set_cons_succ]
                        refine wpT_pureD (v := ?_) (some 71) rfl rfl (by rfl) (fun w' => ?_) ?_
                        rotate_left
                        · (go_simp; try with_reducible rfl)
                        try simp only [Act.put, List.setIfInBounds_toArray, List.set_cons_zero, List.set_cons_succ]
                        refine wpT_pureD (v := ?_) (some 72) rfl rfl (by rfl) (fun w' => ?_) ?_
                        rotate_left
                        · (go_simp; try with_reducible rfl)
                        try simp only [Act.put, List.setIfInBounds_toArray, List.set_cons_zero, List.set_cons_succ]
                        refine wpT_pureD (v := ?_) (some 73) rfl rfl (by rfl) (fun w' => ?_) ?_
                        rotate_left
                        · (go_simp; try with_reducible rfl)
                        try simp only [Act.put, List.setIfInBounds_toArray, List.set_cons_zero, List.set_cons_succ]
                        refine wpT_pureD (v := ?_) (some 74) rfl rfl (by rfl) (fun w' => ?_) ?_
                        rotate_left
                        · (go_simp; try with_reducible rfl)
                        try simp only [Act.put, List.setIfInBounds_toArray, List.set_cons_zero, List.set_cons_succ]
                        refine wpT_pureD (v := ?_) (some 75) rfl rfl (by rfl) (fun w' => ?_) ?_
                        rotate_left
                        · (go_simp; try with_reducible rfl)
                        try simp only [Act.put, List.setIfInBounds_toArray, List.set_cons_zero, List.set_cons_succ]
                        refine wpT_pureD (v := ?_) (some 76) rfl rfl (by rfl) (fun w' => ?_) ?_
                        rotate_left
                        · (go_simp; try with_reducible rfl)
                        try simp only [Act.put, List.setIfInBounds_toArray, List.set_cons_zero, List.set_cons_succ]
                        refine wpT_pureD (v := ?_) (some 77) rfl rfl (by rfl) (fun w' => ?_) ?_
                        rotate_left
                        · (go_simp; try with_reducible rfl)
                        try simp only [Act.put, List.setIfInBounds_toArray, List.set_cons_zero, List.set_cons_succ]
                        refine wpT_readD (v := ?_) (some 78) rfl rfl (by rfl) (fun w' hw => ?_) ?_
                        rotate_left
                        · (obtain ⟨q0, q1⟩ := hw; go_simp; try with_reducible rfl)
                        try simp only [Act.put, List.setIfInBounds_toArray, List.set_cons_zero, List.set_cons_succ]
                        refine wpT_pureD (v := ?_) (some 79) rfl rfl (by rfl) (fun w' => ?_) ?_
                        rotate_left
                        · (go_simp; try with_reducible rfl)
                        try simp only [Act.put, List.setIfInBounds_toArray, List.set_cons_zero, List.set_cons_succ]
                        refine wpT_pureD (v := ?_) (some 80) rfl rfl (by rfl) (fun w' => ?_) ?_
                        rotate_left
                        · (go_simp; try with_reducible rfl)
                        try simp only [Act.put, List.setIfInBounds_toArray, List.set_cons_zero, List.set_cons_succ]
                        refine wpT_pureD (v := ?_) (some 81) rfl rfl (by rfl) (fun w' => ?_) ?_
                        rotate_left
                        · (go_simp; try with_reducible rfl)
                        try simp only [Act.put, List.setIfInBounds_toArray, List.set_cons_zero, List.set_cons_succ]
                        refine wpT_brk rfl (by rfl) (fun K hK => ?_)
                        go_wp2_with fail
                        refine wpT_end ?_
                        clear ww1' ww2' w3' i4I a1I a2I e1 e2 e3 e4 e5 e6 a2B q1 q2 f1
                        go_wp2
                        case roundEnd =>
                          refine ⟨⟨q + 1, HQ4.out, rfl, ?_, ?_⟩, by simp only [intOf]; have := HQ4.out; omega⟩
                          · rw [HNW.out]
                            (try simp only [row_drew])
                            exact natL64_set _ _ _ HRQ.out
                          · first | exact (HCQ.out.setCell (.inl (List.mem_singleton.2 rfl)) _) | exact (HCQ.out.setCell (.inl (List.mem_singleton.2 rfl)) _).drew
                      · have hq44 : q = 4 := by have := HQ.out; omega
                        have dq : ¬ (q : Int) < 4 := by omega
                        rw [hq44] at HRQ
                        clear hq44 hq4
                        go_wp2
                        case roundEnd =>
                          refine ⟨⟨i' + 1, HI64.out, rfl, by rw [HWN.out]; exact HRQ.out, HCQ.out⟩, by simp only [intOf]; have := HI64.out; omega⟩
                  · have dJ : ¬ (i' : Int) < 16 := by omega
                    obtain ⟨kk, hkk⟩ : ∃ kk, i' = 16 + kk := ⟨i' - 16, by omega⟩
                    obtain ⟨WW, hWW⟩ : ∃ WW, WW = w2 (w1 cc 64) kk := ⟨_, rfl⟩
                    have hws : wsN cc i' = WW := by
                      rw [hWW, wsN]
                      by_cases h0 : i' ≤ 16
                      · rw [if_pos h0, show kk = 0 by omega, show 4 * i' = 64 by omega]; rfl
                      · rw [if_neg h0, show i' - 16 = kk by omega]
                    have hws1 : wsN cc (i' + 1) = w2 (w1 cc 64) (kk + 1) := by rw [wsN, if_neg (by omega), show i' + 1 - 16 = kk + 1 by omega]
                    have HRW := HRI
                    rw [hws] at HRW
                    have hWl : WW.length = 64 := by rw [hWW]; exact w2_len _ (w1_len _ _) _
                    have hWb : ∀ x ∈ WW, x < 4294967296 := by rw [hWW]; exact w2_lt _ (w1_lt cc HCB.out 64) kk
                    obtain ⟨k1, hk1⟩ : ∃ z, z = kk + 1 := ⟨_, rfl⟩
                    obtain ⟨k9, hk9⟩ : ∃ z, z = kk + 9 := ⟨_, rfl⟩
                    obtain ⟨k14, hk14⟩ : ∃ z, z = kk + 14 := ⟨_, rfl⟩
                    have l0 : kk < 64 := by omega
                    have l1 : k1 < 64 := by omega
                    have l9 : k9 < 64 := by omega
                    have l14 : k14 < 64 := by omega
                    have s16 : (i' : Int) - 16 = (kk : Int) := by omega
                    have s15 : (i' : Int) - 15 = (k1 : Int) := by omega
                    have s7 : (i' : Int) - 7 = (k9 : Int) := by omega
                    have s2 : (i' : Int) - 2 = (k14 : Int) := by omega
                    have n0 : kk < 1000000000 := by omega
                    have n1 : k1 < 1000000000 := by omega
                    have n9 : k9 < 1000000000 := by omega
                    have n14 : k14 < 1000000000 := by omega
                    obtain ⟨x0, hx0⟩ : ∃ x, x = WW.getD kk 0 := ⟨_, rfl⟩
                    obtain ⟨x1, hx1⟩ : ∃ x, x = WW.getD k1 0 := ⟨_, rfl⟩
                    obtain ⟨x9, hx9⟩ : ∃ x, x = WW.getD k9 0 := ⟨_, rfl⟩
                    obtain ⟨x14, hx14⟩ : ∃ x, x = WW.getD k14 0 := ⟨_, rfl⟩
                    obtain ⟨xi, hxi⟩ : ∃ x, x = WW.getD i' 0 := ⟨_, rfl⟩
                    have m1 : x1 < 4294967296 := by rw [hx1]; exact getD_lt hWb (by decide) k1
                    have m14 : x14 < 4294967296 := by rw [hx14]; exact getD_lt hWb (by decide) k14
                    have c0 := natL64_get WW kk x0 (by rw [hWl]; exact l0) hx0 HRW.out
                    have c1 := natL64_get WW k1 x1 (by rw [hWl]; exact l1) hx1 HRW.out
                    have c9 := natL64_get WW k9 x9 (by rw [hWl]; exact l9) hx9 HRW.out
                    have c14 := natL64_get WW k14 x14 (by rw [hWl]; exact l14) hx14 HRW.out
                    have ci := natL64_get WW i' xi (by rw [hWl]; exact hi64) hxi HRW.out
                    have fi : wr.frozen? ⟨T, i', none⟩ = false := row_free HRW.out _
                    obtain ⟨r1, hr1⟩ : ∃ x, x = rotl x1 25 := ⟨_, rfl⟩
                    obtain ⟨r2, hr2⟩ : ∃ x, x = rotl x1 14 := ⟨_, rfl⟩
                    obtain ⟨r3, hr3⟩ : ∃ x, x = rotl x14 15 := ⟨_, rfl⟩
                    obtain ⟨r4, hr4⟩ : ∃ x, x = rotl x14 13 := ⟨_, rfl⟩
                    have R1 : Hid (∀ w, Calls Tryd.prog 13 #[.int .u64 (x1 : Int), .int .u64 7] w fun e w' => e = .returned (.int .u64 (r1 : Int)) ∧ w' = w) := Lib.hid (fun w => by rw [hr1, ← right_rot x1 7 m1 (by decide) (by decide)]; exact right_any x1 7 (by decide) w)
                    have R2 : Hid (∀ w, Calls Tryd.prog 13 #[.int .u64 (x1 : Int), .int .u64 18] w fun e w' => e = .returned (.int .u64 (r2 : Int)) ∧ w' = w) := Lib.hid (fun w => by rw [hr2, ← right_rot x1 18 m1 (by decide) (by decide)]; exact right_any x1 18 (by decide) w)
                    have R3 : Hid (∀ w, Calls Tryd.prog 13 #[.int .u64 (x14 : Int), .int .u64 17] w fun e w' => e = .returned (.int .u64 (r3 : Int)) ∧ w' = w) := Lib.hid (fun w => by rw [hr3, ← right_rot x14 17 m14 (by decide) (by decide)]; exact right_any x14 17 (by decide) w)
                    have R4 : Hid (∀ w, Calls Tryd.prog 13 #[.int .u64 (x14 : Int), .int .u64 19] w fun e w' => e = .returned (.int .u64 (r4 : Int)) ∧ w' = w) := Lib.hid (fun w => by rw [hr4, ← right_rot x14 19 m14 (by decide) (by decide)]; exact right_any x14 19 (by decide) w)
                    have lr1 : r1 < 18446744073709551616 := lt64 (by rw [hr1]; exact rotl_lt _ _ m1)
                    have lr2 : r2 < 18446744073709551616 := lt64 (by rw [hr2]; exact rotl_lt _ _ m1)
                    have lr3 : r3 < 18446744073709551616 := lt64 (by rw [hr3]; exact rotl_lt _ _ m14)
                    have lr4 : r4 < 18446744073709551616 := lt64 (by rw [hr4]; exact rotl_lt _ _ m14)
                    obtain ⟨d1, hd1⟩ : ∃ x, x = x1 / 8 := ⟨_, rfl⟩
                    obtain ⟨d2, hd2⟩ : ∃ x, x = x14 / 1024 := ⟨_, rfl⟩
                    have ld1 : d1 < 18446744073709551616 := by omega
                    have ld2 : d2 < 18446744073709551616 := by omega
                    have D1 : (x1 : Int) / 8 = (d1 : Int) := by omega
                    have D2 : (x14 : Int) / 1024 = (d2 : Int) := by omega
                    obtain ⟨y1, hy1⟩ : ∃ x, x = r1 ^^^ r2 := ⟨_, rfl⟩
                    obtain ⟨y2, hy2⟩ : ∃ x, x = y1 ^^^ d1 := ⟨_, rfl⟩
                    obtain ⟨y3, hy3⟩ : ∃ x, x = r3 ^^^ r4 := ⟨_, rfl⟩
                    obtain ⟨y4, hy4⟩ : ∃ x, x = y3 ^^^ d2 := ⟨_, rfl⟩
                    have ly1 : y1 < 18446744073709551616 := by rw [hy1]; exact xor64 lr1 lr2
                    have ly3 : y3 < 18446744073709551616 := by rw [hy3]; exact xor64 lr3 lr4
                    have B1 : bits .xor .u64 (r1 : Int) (r2 : Int) = (y1 : Int) := by rw [hy1]; exact (bit_u64 r1 r2 lr1 lr2).1
                    have B2 : bits .xor .u64 (y1 : Int) (d1 : Int) = (y2 : Int) := by rw [hy2]; exact (bit_u64 y1 d1 ly1 ld1).1
                    have B3 : bits .xor .u64 (r3 : Int) (r4 : Int) = (y3 : Int) := by rw [hy3]; exact (bit_u64 r3 r4 lr3 lr4).1
                    have B4 : bits .xor .u64 (y3 : Int) (d2 : Int) = (y4 : Int) := by rw [hy4]; exact (bit_u64 y3 d2 ly3 ld2).1
                    obtain ⟨z1, hz1⟩ : ∃ x, x = (x0 + x9) % 18446744073709551616 := ⟨_, rfl⟩
                    obtain ⟨z2, hz2⟩ : ∃ x, x = (z1 + y2) % 18446744073709551616 := ⟨_, rfl⟩
                    obtain ⟨z3, hz3⟩ : ∃ x, x = (z2 + y4) % 18446744073709551616 := ⟨_, rfl⟩
                    obtain ⟨z4, hz4⟩ : ∃ x, x = z3 % 4294967296 := ⟨_, rfl⟩
                    have A1 := wadd hz1
                    have A2 := wadd hz2
                    have A3 := wadd hz3
                    have A4 := wmod hz4
                    have A5 := wtmod hz4
                    have HNX : Hid (wsN cc (i' + 1) = WW.set i' z4) := Lib.hid (by
                      rw [hws1]
                      show (w2 (w1 cc 64) kk).set (16 + kk) (schedN _ _ _ _) = _
                      rw [← hWW, ← hkk]
                      congr 1
                      unfold schedN sig0 sig1
                      rw [← hk1, ← hk9, ← hk14, ← hx0, ← hx9, ← hx1, ← hx14, ← hr1, ← hr2, ← hr3, ← hr4, ← hd1, ← hd2, ← hy1, ← hy2, ← hy3, ← hy4]
                      exact (sched_eq hz1 hz2 hz3 hz4).symm)
                    have L0 := ltI64 l0
                    have e1 := idi64 n0
                    have e2 := idi64 n1
                    have e3 := idi64 n9
                    have e4 := idi64 n14
                    have e5 := idw64 n0
                    have e6 := idw64 n1
                    have e7 := idw64 n9
                    have e8 := idw64 n14
                    have L1' := ltI64 l1
                    have L9 := ltI64 l9
                    have L14 := ltI64 l14
                    clear hkk hWW hws hws1 hWl hWb hk1 hk9 hk14 hx0 hx1 hx9 hx14 hxi m1 m14 hr1 hr2 hr3 hr4 lr1 lr2 lr3 lr4 hd1 hd2 ld1 ld2 hy1 hy2 hy3 hy4 ly1 ly3 hz1 hz2 hz3 hz4
                    go_upto_region 22 with (fail)
                    refine wp_region_C (fun w' => w'.cell? ⟨T, k1, none⟩ = some (.int .u64 (x1 : Int)) ∧ w'.cell? ⟨T, k14, none⟩ = some (.int .u64 (x14 : Int))) [(0, 0), (1, 0), (2, 0), (3, 1), (4, 0), (5, 0), (6, 0), (7, 1), (8, 0), (9, 0)] rfl (by kernel_rfl) ?hSU ?hTU
                    case hSU => exact ⟨c1, c14⟩
                    refine wpT_pureD (v := ?_) (some 82) rfl rfl (by rfl) (fun w' => ?_) ?_
                    rotate_left
                    · (go_simp; try with_reducible rfl)
                    try simp only [Act.put, List.setIfInBounds_toArray, List.set_cons_zero, List.set_cons_succ]
                    refine wpT_pureD (v := ?_) (some 83) rfl rfl (by rfl) (fun w' => ?_) ?_
                    rotate_left
                    · (go_simp; try with_reducible rfl)
                    try simp only [Act.put, List.setIfInBounds_toArray, List.set_cons_zero, List.set_cons_succ]
                    refine wpT_pureD (v := ?_) (some 84) rfl rfl (by rfl) (fun w' => ?_) ?_
                    rotate_left
                    · (go_simp; try with_reducible rfl)
                    try simp only [Act.put, List.setIfInBounds_toArray, List.set_cons_zero, List.set_cons_succ]
                    refine wpT_readD (v := ?_) (some 85) rfl rfl (by rfl) (fun w' hw => ?_) ?_
                    rotate_left
                    · (obtain ⟨q0, q1⟩ := hw; go_simp; try with_reducible rfl)
                    try simp only [Act.put, List.setIfInBounds_toArray, List.set_cons_zero, List.set_cons_succ]
                    refine wpT_pureD (v := ?_) (some 86) rfl rfl (by rfl) (fun w' => ?_) ?_
                    rotate_left
                    · (go_simp; try with_reducible rfl)
                    try simp only [Act.put, List.setIfInBounds_toArray, List.set_cons_zero, List.set_cons_succ]
                    refine wpT_pureD (v := ?_) (some 87) rfl rfl (by rfl) (fun w' => ?_) ?_
                    rotate_left
                    · (go_simp; try with_reducible rfl)
                    try simp only [Act.put, List.setIfInBounds_toArray, List.set_cons_zero, List.set_cons_succ]
                    refine wpT_pureD (v := ?_) (some 88) rfl rfl (by rfl) (fun w' => ?_) ?_
                    rotate_left
                    · (go_simp; try with_reducible rfl)
                    try simp only [Act.put, List.setIfInBounds_toArray, List.set_cons_zero, List.set_cons_succ]
                    refine wpT_readD (v := ?_) (some 89) rfl rfl (by rfl) (fun w' hw => ?_) ?_
                    rotate_left
                    · (obtain ⟨q0, q1⟩ := hw; go_simp; try with_reducible rfl)
                    try simp only [Act.put, List.setIfInBounds_toArray, List.set_cons_zero, List.set_cons_succ]
                    refine wpT_pureD (v := ?_) (some 11) rfl rfl (by rfl) (fun w' => ?_) ?_
                    rotate_left
                    · (go_simp; try with_reducible rfl)
                    try simp only [Act.put, List.setIfInBounds_toArray, List.set_cons_zero, List.set_cons_succ]
                    refine wpT_pureD (v := ?_) (some 12) rfl rfl (by rfl) (fun w' => ?_) ?_
                    rotate_left
                    · (go_simp; try with_reducible rfl)
                    try simp only [Act.put, List.setIfInBounds_toArray, List.set_cons_zero, List.set_cons_succ]
                    refine wpT_end ?_
                    go_upto_region 23 with (fail)
                    refine wp_region_C (fun w' => w'.cell? ⟨T, kk, none⟩ = some (.int .u64 (x0 : Int)) ∧ w'.cell? ⟨T, k9, none⟩ = some (.int .u64 (x9 : Int))) [(0, 0), (1, 0), (2, 0), (3, 0), (4, 1), (5, 0), (6, 0), (7, 0), (8, 1), (9, 0), (10, 0), (11, 0), (12, 0), (13, 0), (14, 0), (15, 0), (16, 0), (17, 0), (18, 0), (19, 0), (20, 0), (21, 0), (22, 0), (23, 0), (24, 0), (25, 0), (26, 0), (27, 0), (28, 0), (29, 0), (30, 3)] rfl (by kernel_rfl) ?hSV ?hTV
                    case hSV => (try simp only [cell?_drew]); exact ⟨c0, c9⟩
                    refine wpT_pureD (v := ?_) (some 90) rfl rfl (by rfl) (fun w' => ?_) ?_
                    rotate_left
                    · (go_simp; try with_reducible rfl)
                    try simp only [Act.put, List.setIfInBounds_toArray, List.set_cons_zero, List.set_cons_succ]
                    refine wpT_pureD (v := ?_) (some 91) rfl rfl (by rfl) (fun w' => ?_) ?_
                    rotate_left
                    · (go_simp; try with_reducible rfl)
                    try simp only [Act.put, List.setIfInBounds_toArray, List.set_cons_zero, List.set_cons_succ]
                    refine wpT_pureD (v := ?_) (some 92) rfl rfl (by rfl) (fun w' => ?_) ?_
                    rotate_left
                    · (go_simp; try with_reducible rfl)
                    try simp only [Act.put, List.setIfInBounds_toArray, List.set_cons_zero, List.set_cons_succ]
                    refine wpT_pureD (v := ?_) (some 93) rfl rfl (by rfl) (fun w' => ?_) ?_
                    rotate_left
                    · (go_simp; try with_reducible rfl)
                    try simp only [Act.put, List.setIfInBounds_toArray, List.set_cons_zero, List.set_cons_succ]
                    refine wpT_readD (v := ?_) (some 94) rfl rfl (by rfl) (fun w' hw => ?_) ?_
                    rotate_left
                    · (obtain ⟨q0, q1⟩ := hw; go_simp; try with_reducible rfl)
                    try simp only [Act.put, List.setIfInBounds_toArray, List.set_cons_zero, List.set_cons_succ]
                    refine wpT_pureD (v := ?_) (some 95) rfl rfl (by rfl) (fun w' => ?_) ?_
                    rotate_left
                    · (go_simp; try with_reducible rfl)
                    try simp only [Act.put, List.setIfInBounds_toArray, List.set_cons_zero, List.set_cons_succ]
                    refine wpT_pureD (v := ?_) (some 96) rfl rfl (by rfl) (fun w' => ?_) ?_
                    rotate_left
                    · (go_simp; try with_reducible rfl)
                    try simp only [Act.put, List.setIfInBounds_toArray, List.set_cons_zero, List.set_cons_succ]
                    refine wpT_pureD (v := ?_) (some 97) rfl rfl (by rfl) (fun w' => ?_) ?_
                    rotate_left
                    · (go_simp; try with_reducible rfl)
                    try simp only [Act.put, List.setIfInBounds_toArray, List.set_cons_zero, List.set_cons_succ]
                    refine wpT_readD (v := ?_) (some 98) rfl rfl (by rfl) (fun w' hw => ?_) ?_
                    rotate_left
                    · (obtain ⟨q0, q1⟩ := hw; go_simp; try with_reducible rfl)
                    try simp only [Act.put, List.setIfInBounds_toArray, List.set_cons_zero, List.set_cons_succ]
                    refine wpT_pureD (v := ?_) (some 99) rfl rfl (by rfl) (fun w' => ?_) ?_
                    rotate_left
                    · (go_simp; try with_reducible rfl)
                    try simp only [Act.put, List.setIfInBounds_toArray, List.set_cons_zero, List.set_cons_succ]
                    refine wpT_pureD (v := ?_) (some 100) rfl rfl (by rfl) (fun w' => ?_) ?_
                    rotate_left
                    · (go_simp; try with_reducible rfl)
                    try simp only [Act.put, List.setIfInBounds_toArray, List.set_cons_zero, List.set_cons_succ]
                    refine wpT_call (d := some 101) (f := 13) (args := #[.int .u64 (x1 : Int), .int .u64 7]) (v := .int .u64 (r1 : Int)) rfl rfl (by rfl) (fun w' => by first | rfl | (go_simp; done) | (go_simp; rfl)) (fun w' => R1.out w') ?_
                    try simp only [Act.put, List.setIfInBounds_toArray, List.set_cons_zero, List.set_cons_succ]
                    try simp only [Act.put, List.setIfInBounds_toArray, List.set_cons_zero, List.set_cons_succ]
                    refine wpT_pureD (v := ?_) (some 102) rfl rfl (by rfl) (fun w' => ?_) ?_
                    rotate_left
                    · (go_simp; try with_reducible rfl)
                    try simp only [Act.put, List.setIfInBounds_toArray, List.set_cons_zero, List.set_cons_succ]
                    refine wpT_call (d := some 103) (f := 13) (args := #[.int .u64 (x1 : Int), .int .u64 18]) (v := .int .u64 (r2 : Int)) rfl rfl (by rfl) (fun w' => by first | rfl | (go_simp; done) | (go_simp; rfl)) (fun w' => R2.out w') ?_
                    try simp only [Act.put, List.setIfInBounds_toArray, List.set_cons_zero, List.set_cons_succ]
                    try simp only [Act.put, List.setIfInBounds_toArray, List.set_cons_zero, List.set_cons_succ]
                    refine wpT_pureD (v := ?_) (some 104) rfl rfl (by rfl) (fun w' => ?_) ?_
                    rotate_left
                    · (go_simp; try with_reducible rfl)
                    try simp only [Act.put, List.setIfInBounds_toArray, List.set_cons_zero, List.set_cons_succ]
                    refine wpT_pureD (v := ?_) (some 105) rfl rfl (by rfl) (fun w' => ?_) ?_
                    rotate_left
                    · (go_simp; try with_reducible rfl)
                    try simp only [Act.put, List.setIfInBounds_toArray, List.set_cons_zero, List.set_cons_succ]
                    refine wpT_pureD (v := ?_) (some 106) rfl rfl (by rfl) (fun w' => ?_) ?_
                    rotate_left
                    · (go_simp; try with_reducible rfl)
                    try simp only [Act.put, List.setIfInBounds_toArray, List.set_cons_zero, List.set_cons_succ]
                    refine wpT_pureD (v := ?_) (some 107) rfl rfl (by rfl) (fun w' => ?_) ?_
                    rotate_left
                    · (go_simp; try with_reducible rfl)
                    try simp only [Act.put, List.setIfInBounds_toArray, List.set_cons_zero, List.set_cons_succ]
                    refine wpT_pureD (v := ?_) (some 108) rfl rfl (by rfl) (fun w' => ?_) ?_
                    rotate_left
                    · (go_simp; try with_reducible rfl)
                    try simp only [Act.put, List.setIfInBounds_toArray, List.set_cons_zero, List.set_cons_succ]
                    refine wpT_pureD (v := ?_) (some 109) rfl rfl (by rfl) (fun w' => ?_) ?_
                    rotate_left
                    · (go_simp; try with_reducible rfl)
                    try simp only [Act.put, List.setIfInBounds_toArray, List.set_cons_zero, List.set_cons_succ]
                    refine wpT_call (d := some 110) (f := 13) (args := #[.int .u64 (x14 : Int), .int .u64 17]) (v := .int .u64 (r3 : Int)) rfl rfl (by rfl) (fun w' => by first | rfl | (go_simp; done) | (go_simp; rfl)) (fun w' => R3.out w') ?_
                    try simp only [Act.put, List.setIfInBounds_toArray, List.set_cons_zero, List.set_cons_succ]
                    try simp only [Act.put, List.setIfInBounds_toArray, List.set_cons_zero, List.set_cons_succ]
                    refine wpT_pureD (v := ?_) (some 111) rfl rfl (by rfl) (fun w' => ?_) ?_
                    rotate_left
                    · (go_simp; try with_reducible rfl)
                    try simp only [Act.put, List.setIfInBounds_toArray, List.set_cons_zero, List.set_cons_succ]
                    refine wpT_call (d := some 112) (f := 13) (args := #[.int .u64 (x14 : Int), .int .u64 19]) (v := .int .u64 (r4 : Int)) rfl rfl (by rfl) (fun w' => by first | rfl | (go_simp; done) | (go_simp; rfl)) (fun w' => R4.out w') ?_
                    try simp only [Act.put, List.setIfInBounds_toArray, List.set_cons_zero, List.set_cons_succ]
                    try simp only [Act.put, List.setIfInBounds_toArray, List.set_cons_zero, List.set_cons_succ]
                    refine wpT_pureD (v := ?_) (some 113) rfl rfl (by rfl) (fun w' => ?_) ?_
                    rotate_left
                    · (go_simp; try with_reducible rfl)
                    try simp only [Act.put, List.setIfInBounds_toArray, List.set_cons_zero, List.set_cons_succ]
                    refine wpT_pureD (v := ?_) (some 114) rfl rfl (by rfl) (fun w' => ?_) ?_
                    rotate_left
                    · (go_simp; try with_reducible rfl)
                    try simp only [Act.put, List.setIfInBounds_toArray, List.set_cons_zero, List.set_cons_succ]
                    refine wpT_pureD (v := ?_) (some 115) rfl rfl (by rfl) (fun w' => ?_) ?_
                    rotate_left
                    · (go_simp; try with_reducible rfl)
                    try simp only [Act.put, List.setIfInBounds_toArray, List.set_cons_zero, List.set_cons_succ]
                    refine wpT_pureD (v := ?_) (some 116) rfl rfl (by rfl) (fun w' => ?_) ?_
                    rotate_left
                    · (go_simp; try with_reducible rfl)
                    try simp only [Act.put, List.setIfInBounds_toArray, List.set_cons_zero, List.set_cons_succ]
                    refine wpT_pureD (v := ?_) (some 117) rfl rfl (by rfl) (fun w' => ?_) ?_
                    rotate_left
                    · (go_simp; try with_reducible rfl)
                    try simp only [Act.put, List.setIfInBounds_toArray, List.set_cons_zero, List.set_cons_succ]
                    refine wpT_pureD (v := ?_) (some 118) rfl rfl (by rfl) (fun w' => ?_) ?_
                    rotate_left
                    · (go_simp; try with_reducible rfl)
                    try simp only [Act.put, List.setIfInBounds_toArray, List.set_cons_zero, List.set_cons_succ]
                    refine wpT_pureD (v := ?_) (some 119) rfl rfl (by rfl) (fun w' => ?_) ?_
                    rotate_left
                    · (go_simp; try with_reducible rfl)
                    try simp only [Act.put, List.setIfInBounds_toArray, List.set_cons_zero, List.set_cons_succ]
                    refine wpT_brk rfl (by rfl) (fun K hK => ?_)
                    go_wp2_with fail
                    refine wpT_end ?_
                    clear n0 n1 n9 n14 e1 e2 e3 e4 e5 e6 e7 e8 c0 c1 c9 c14 B1 B2 B3 B4 A1 A2 A3 A4 A5 D1 D2 L0 L1' L9 L14 s16 s15 s7 s2 l0 l1 l9 l14 dJ hi16 ci fi
                    go_wp2
                    case roundEnd =>
                      refine ⟨⟨i' + 1, HI64.out, rfl, ?_, ?_⟩, by simp only [intOf]; have := HI64.out; omega⟩
                      · rw [HNX.out]
                        (try simp only [row_drew])
                        exact natL64_set _ _ _ (by simpa using HRW.out)
                      · first | exact (HCI.out.setCell (.inl (List.mem_singleton.2 rfl)) _) | exact (HCI.out.drew.setCell (.inl (List.mem_singleton.2 rfl)) _) | exact (HCI.out.drew.drew.setCell (.inl (List.mem_singleton.2 rfl)) _) | exact (HCI.out.setCell (.inl (List.mem_singleton.2 rfl)) _).drew | (trace_state; sorry)
                · have hi6 : i' = 64 := by have := HI'.out; omega
                  have dI : ¬ (i' : Int) < 64 := by omega
                  obtain ⟨WW, hWW⟩ : ∃ WW, WW = w2 (w1 cc 64) 48 := ⟨_, rfl⟩
                  have hws : wsN cc i' = WW := by rw [hWW, wsN, if_neg (by omega), hi6]
                  rw [hws] at HRI
                  have HWL : Hid (WW.length = 64) := Lib.hid (by rw [hWW]; exact w2_len _ (w1_len _ _) _)
                  obtain ⟨hh, hhh⟩ : ∃ hh, hh = hN PL j := ⟨_, rfl⟩
                  have HHX : Hid (hN PL (j + 1) = addH hh (vsN (v8of hh) WW 64).L 8) := Lib.hid (by rw [HHJ.out, hhh, hWW]; rfl)
                  have HHL : Hid (hh.length = 8) := Lib.hid (by rw [hhh]; exact hN_len _ _)
                  have HHB : Hid (∀ x ∈ hh, x < 4294967296) := Lib.hid (by rw [hhh]; exact hN_lt _ _)
                  have howr : wr.ownsRow ww1.heap.size 36 1 (.slice (some ⟨gh, 0, none⟩) 8 ch) 8 (natL .u64 hh) := by rw [hhh]; exact ownsRow_chg HOX.out HCI.out (by intro k hk; cases hk; rw [List.mem_singleton]; exact HTG.out.2.2.1)
                  have HOWR := Lib.hid howr
                  have HTA : Hid (NatAt wr .u64 T WW) := Lib.hid (natAt_row HRI.out)
                  have HAW : Hid (NatAt wr .u64 ga addsL) := Lib.hid (HAX.out.keep HCI.out (by rw [List.mem_singleton]; exact HTG.out.1))
                  have HCV : Hid (Chg [gh] _ wr) := Lib.hid (chg_fresh (HCJ.out.trans HCX.out) HCI.out (by intro g hg; rw [List.mem_singleton] at hg; subst hg; exact .inr (by rw [HTN.out]; exact HCJ.out.size)))
                  have HGS : Hid (gh < wr.heap.size) := Lib.hid (howr.lt gh rfl).2
                  obtain ⟨S0, hS0⟩ : ∃ S, S = wr.heap.size := ⟨_, rfl⟩
                  have HS0 := Lib.hid hS0
                  clear hi6 hWW hws hhh howr hS0 hi64
                  go_wp2_with (at_builtin; refine app_nat rfl _ _ 34 36 .u64 8 rfl Tryd.underlying34 info36 (by decide) S0 (.slice none 0 0) 0 [] rfl (World.ownsRow_nil _ _ _ _) gh 0 8 ch hh rfl HHL.out (fun j x hj => by rw [Nat.zero_add]; exact NatAt.of_own HOWR.out rfl j x hj) (by decide) (Nat.le_of_eq HS0.out) ?_)
                  intro vs5 w5 hx1 hx2
                  have hx3 : w5.ownsRow S0 36 1 vs5 8 (natL .u64 hh) := by simpa [natL] using hx1
                  have hc5 : Chg [] wr w5 := chg_grown (Chg.refl _ _) hx2 (fun x hx => by cases hx)
                  obtain ⟨ps, cs, rfl, hgs⟩ := own_form hx3
                  obtain ⟨gs, rfl, _⟩ := hgs (by decide)
                  have HSV : Hid (NatAt w5 .u64 gs (vsN (v8of hh) WW 0).L) := Lib.hid (by
                    have := NatAt.of_own hx3 rfl
                    rw [v8_list hh HHL.out] at this
                    exact this)
                  have HGS0 : Hid (S0 ≤ gs) := Lib.hid (hx3.lt gs rfl).1
                  have HS5 : Hid (S0 ≤ w5.heap.size) := Lib.hid (by rw [HS0.out]; exact hc5.size)
                  have HA5 : Hid (NatAt w5 .u64 ga addsL) := Lib.hid (HAW.out.keep hc5 (by simp))
                  have HT5 : Hid (NatAt w5 .u64 T WW) := Lib.hid (HTA.out.keep hc5 (by simp))
                  have HO5 : Hid (w5.ownsRow ww1.heap.size 36 1 (.slice (some ⟨gh, 0, none⟩) 8 ch) 8 (natL .u64 hh)) := Lib.hid (ownsRow_chg HOWR.out hc5 (by intro k _; simp))
                  have HC5 := Lib.hid hc5
                  clear hx1 hx2 hx3 hc5 hgs dI
                  go_wp2_with fail
                  refine rounds_loop HA5 HT5 HWL HHB HGS0 HS5 HSV _ _ _ _ _ _ _ _ _ _ _ _ _ _ _ _ _ _ _ _ _ _ _ _ _ _ _ _ _ _ _ _ _ _ _ _ _ _ _ _ _ _ _ _ _ _ _ _ _ _ _ _ _ _ _ _ _ _ _ _ _ _ _ _ _ _ _ _ _ _ _ _ _ _ _ _ _ _ _ _ _ _ _ _ _ _ _ _ _ _ _ _ _ _ _ _ _ _ _ _ _ _ _ _ _ _ _ _ _ _ _ _ _ _ _ _ _ _ _ _ _ _ _ _ _ _ _ _ _ _ _ _ _ _ _ _ _ _ _ _ _ _ _ _ _ _ _ _ _ _ _ _ _ _ _ _ _ _ _ _ _ _ _ _ _ _ _ _ _ _ _ _ _ _ _ _ _ _ _ _ _ _ _ _ _ _ _ _ _ _ _ _ _ _ _ _ _ _ _ _ _ _ _ _ _ _ _ _ _ _ _ _ _ _ _ _ _ _ _ _ _ _ _ _ _ _ _ _ _ _ _ _ _ _ _ _ _ _ _ _ _ _ _ _ _ _ _ _ _ _ _ _ _ _ _ _ ?_
                  intro g c9 u14 u15 u16 u17 u18 u122 u123 u124 u125 u126 u127 u128 u129 u130 u131 u132 u133 u134 u135 u136 u137 u138 u139 u140 u141 u142 u143 u144 u145 u146 u147 u148 u149 u150 u151 u152 u153 u154 u155 u156 u157 u158 u159 u160 u161 u162 u163 u164 u165 u166 u167 u168 u169 u170 u171 u172 u173 u174 u175 u176 u177 u178 u179 u180 u181 u182 u183 u184 u185 u186 u187 u188 u189 u190 u191 u192 u193 u194 u195 u196 u197 u198 u199 u200 u201 u202 u203 u204 u205 u206 u207 u208 u209 u210 u211 u212 u213 u214 u215 u216 u217 u218 u219 u220 u221 u222 u223 u224 wr hg0 hgv hcr
                  have HGV := Lib.hid hgv
                  have HCR := Lib.hid hcr
                  have HG0 := Lib.hid hg0
                  clear hgv hcr hg0
                  obtain ⟨vL, hvL⟩ : ∃ v, v = (vsN (v8of hh) WW 64).L := ⟨_, rfl⟩
                  have HHX2 := HHX
                  rw [← hvL] at HGV HHX2
                  have HVL : Hid (vL.length = 8) := Lib.hid (by rw [hvL]; rfl)
                  have HO6 : Hid (wr.ownsRow ww1.heap.size 36 1 (.slice (some ⟨gh, 0, none⟩) 8 ch) 8 (natL .u64 (addH hh vL 0))) := Lib.hid (ownsRow_chg HO5.out HCR.out (by intro k _; simp))
                  have HGG : Hid (g ≠ gh) := Lib.hid (by have := HG0.out; have := HGS.out; have := HS0.out; omega)
                  clear hvL
                  go_wp2_with fail
                  go_loopw [19] (fun i wq => ∃ q : Nat, q ≤ 8 ∧ i = .int .i64 q ∧ wq.ownsRow ww1.heap.size 36 1 (.slice (some ⟨gh, 0, none⟩) 8 ch) 8 (natL .u64 (addH hh vL q)) ∧ Chg [gh] wr wq) (fun i _ => 8 - (intOf i).toNat)
                  case atStart => exact ⟨0, by omega, rfl, HO6.out, Chg.refl _ _⟩
                  case round =>
                    obtain ⟨q, hq, rfl, hoq, hcq⟩ := hrel
                    have HOQ := Lib.hid hoq
                    have HCQ := Lib.hid hcq
                    have HQ := Lib.hid hq
                    clear hoq hcq hq
                    by_cases hq8 : q < 8
                    · have HQ8 := Lib.hid hq8
                      have qI := ltI8 hq8
                      obtain ⟨hv, hhv⟩ : ∃ x, x = (addH hh vL q).getD q 0 := ⟨_, rfl⟩
                      obtain ⟨sv, hsv⟩ : ∃ x, x = vL.getD q 0 := ⟨_, rfl⟩
                      have qh := (NatAt.of_own HOQ.out rfl).get q hv (by rw [addH_len hh vL HHL.out]; exact hq8) hhv
                      have qs := (HGV.out.keep HCQ.out (by rw [List.mem_singleton]; exact HGG.out)).get q sv (by rw [HVL.out]; exact hq8) hsv
                      have fh : wr.frozen? ⟨gh, q, none⟩ = false := by obtain ⟨tl, hrow, _⟩ := own_row HOQ.out; exact row_free hrow _
                      obtain ⟨z1, hz1⟩ : ∃ x, x = (hv + sv) % 18446744073709551616 := ⟨_, rfl⟩
                      obtain ⟨z2, hz2⟩ : ∃ x, x = z1 % 4294967296 := ⟨_, rfl⟩
                      have A1 := wadd hz1
                      have M2 := wmod hz2
                      have N2 := wtmod hz2
                      have HNA : Hid (addH hh vL (q + 1) = (addH hh vL q).set q z2) := Lib.hid (by
                        show (addH hh vL q).set q _ = _
                        rw [← hhv, ← hsv, u_eq hz1 hz2])
                      clear hhv hsv hz1 hz2
                      go_upto_region 36 with (fail)
                      refine wp_region_C (fun w' => w'.cell? ⟨gh, q, none⟩ = some (.int .u64 (hv : Int)) ∧ w'.cell? ⟨g, q, none⟩ = some (.int .u64 (sv : Int))) [(0, 0), (1, 0), (2, 0), (3, 0), (4, 0), (5, 1), (6, 0), (7, 0), (8, 0), (9, 1), (10, 0), (11, 0), (12, 0), (13, 3)] rfl (by kernel_rfl) ?hSY ?hTY
                      case hSY => exact ⟨qh, qs⟩
                      refine wpT_pureD (v := ?_) (some 229) rfl rfl (by rfl) (fun w' => ?_) ?_
                      rotate_left
                      · (go_simp; try with_reducible rfl)
                      try simp only [Act.put, List.setIfInBounds_toArray, List.set_cons_zero, List.set_cons_succ]
                      refine wpT_pureD (v := ?_) (some 230) rfl rfl (by rfl) (fun w' => ?_) ?_
                      rotate_left
                      · (go_simp; try with_reducible rfl)
                      try simp only [Act.put, List.setIfInBounds_toArray, List.set_cons_zero, List.set_cons_succ]
                      refine wpT_pureD (v := ?_) (some 231) rfl rfl (by rfl) (fun w' => ?_) ?_
                      rotate_left
                      · (go_simp; try with_reducible rfl)
                      try simp only [Act.put, List.setIfInBounds_toArray, List.set_cons_zero, List.set_cons_succ]
                      refine wpT_pureD (v := ?_) (some 232) rfl rfl (by rfl) (fun w' => ?_) ?_
                      rotate_left
                      · (go_simp; try with_reducible rfl)
                      try simp only [Act.put, List.setIfInBounds_toArray, List.set_cons_zero, List.set_cons_succ]
                      refine wpT_pureD (v := ?_) (some 233) rfl rfl (by rfl) (fun w' => ?_) ?_
                      rotate_left
                      · (go_simp; try with_reducible rfl)
                      try simp only [Act.put, List.setIfInBounds_toArray, List.set_cons_zero, List.set_cons_succ]
                      refine wpT_readD (v := ?_) (some 234) rfl rfl (by rfl) (fun w' hw => ?_) ?_
                      rotate_left
                      · (obtain ⟨q0, q1⟩ := hw; go_simp; try with_reducible rfl)
                      try simp only [Act.put, List.setIfInBounds_toArray, List.set_cons_zero, List.set_cons_succ]
                      refine wpT_pureD (v := ?_) (some 235) rfl rfl (by rfl) (fun w' => ?_) ?_
                      rotate_left
                      · (go_simp; try with_reducible rfl)
                      try simp only [Act.put, List.setIfInBounds_toArray, List.set_cons_zero, List.set_cons_succ]
                      refine wpT_pureD (v := ?_) (some 236) rfl rfl (by rfl) (fun w' => ?_) ?_
                      rotate_left
                      · (go_simp; try with_reducible rfl)
                      try simp only [Act.put, List.setIfInBounds_toArray, List.set_cons_zero, List.set_cons_succ]
                      refine wpT_pureD (v := ?_) (some 237) rfl rfl (by rfl) (fun w' => ?_) ?_
                      rotate_left
                      · (go_simp; try with_reducible rfl)
                      try simp only [Act.put, List.setIfInBounds_toArray, List.set_cons_zero, List.set_cons_succ]
                      refine wpT_readD (v := ?_) (some 238) rfl rfl (by rfl) (fun w' hw => ?_) ?_
                      rotate_left
                      · (obtain ⟨q0, q1⟩ := hw; go_simp; try with_reducible rfl)
                      try simp only [Act.put, List.setIfInBounds_toArray, List.set_cons_zero, List.set_cons_succ]
                      refine wpT_pureD (v := ?_) (some 239) rfl rfl (by rfl) (fun w' => ?_) ?_
                      rotate_left
                      · (go_simp; try with_reducible rfl)
                      try simp only [Act.put, List.setIfInBounds_toArray, List.set_cons_zero, List.set_cons_succ]
                      refine wpT_pureD (v := ?_) (some 240) rfl rfl (by rfl) (fun w' => ?_) ?_
                      rotate_left
                      · (go_simp; try with_reducible rfl)
                      try simp only [Act.put, List.setIfInBounds_toArray, List.set_cons_zero, List.set_cons_succ]
                      refine wpT_pureD (v := ?_) (some 241) rfl rfl (by rfl) (fun w' => ?_) ?_
                      rotate_left
                      · (go_simp; try with_reducible rfl)
                      try simp only [Act.put, List.setIfInBounds_toArray, List.set_cons_zero, List.set_cons_succ]
                      refine wpT_brk rfl (by rfl) (fun K hK => ?_)
                      go_wp2_with fail
                      refine wpT_end ?_
                      clear qh qs fh A1 M2 N2
                      go_wp2
                      case roundEnd =>
                        refine ⟨⟨q + 1, HQ8.out, rfl, ?_, ?_⟩, by simp only [intOf]; have := HQ8.out; omega⟩
                        · rw [HNA.out]
                          have h9 := own_setCell HOQ.out q (.int .u64 (z2 : Int))
                          rw [natL_setL] at h9
                          first | exact h9 | exact ownsRow_chg h9 (Chg.refl [] _).drew (by intro k _; simp)
                        · (repeat refine Chg.drew ?_)
                          exact HCQ.out.setCell (.inl (List.mem_singleton.2 rfl)) _
                    · have hq88 : q = 8 := by have := HQ.out; omega
                      have dq : ¬ (q : Int) < 8 := by omega
                      have dqN : ¬ q < 8 := hq8
                      rw [hq88, ← HHX2.out] at HOQ
                      obtain ⟨a65, ha65⟩ : ∃ z, z = a64 + 64 := ⟨_, rfl⟩
                      have HA65 : Hid (a65 = 64 * (j + 1)) := Lib.hid (by have := HA64.out; omega)
                      have HM9 : Hid (N - a65 < N - a64) := Lib.hid (by have := HAN.out; omega)
                      have a65l : a65 < 1000000000 := by have := HAN.out; have := HNN.out.2.1; omega
                      have a65I : (a64 : Int) + 64 = (a65 : Int) := by omega
                      have e1 := idw64 a65l
                      have e2 := idi64 a65l
                      clear hq88 hq8 ha65 a65l
                      go_wp2
                      case roundEnd =>
                        refine ⟨⟨j + 1, a65, HA65.out, HJB.out, rfl, HOQ.out, ?_⟩, by simp only [intOf, Int.toNat_natCast]; exact HM9.out⟩
                        have h1 := HCV.out.trans (chg_wide (HC5.out.trans HCR.out) (F := [gh]) (by simp))
                        exact h1.trans HCQ.out
            · have hjn : j = nb := by have := HJN.out; omega
              have hle : a64 = N := by rw [HA64.out, hjn, HNB.out]
              have dI : ¬ (a64 : Int) < (N : Int) := by omega
              have dIN : ¬ a64 < N := by omega
              obtain ⟨hh, hhh⟩ : ∃ hh, hh = hN PL nb := ⟨_, rfl⟩
              rw [hjn, ← hhh] at HOJ
              have HHL : Hid (hh.length = 8) := Lib.hid (by rw [hhh]; exact hN_len _ _)
              have HRF : Hid (refN L = outN hh 32) := Lib.hid (by
                unfold refN
                rw [← HPL.out, HNN.out.2.2, HNB.out, Nat.mul_div_cancel_left _ (by decide), hhh])
              obtain ⟨X, hX⟩ : ∃ X, X = wr.alloc (.cells z32 24) := ⟨_, rfl⟩
              obtain ⟨D, hD⟩ : ∃ D, D = wr.heap.size := ⟨_, rfl⟩
              have hrD : X.row? D = some (natL .u8 (outN hh 0)).toArray := by rw [hX, outN_zero]; exact row_alloc_at _ _ _ _ hD
              have hcX : Chg [] wr X := by rw [hX]; exact (Chg.refl _ _).alloc _
              have HXO : Hid (NatAt X .u64 gh hh) := Lib.hid (NatAt.of_own (ownsRow_chg HOJ.out hcX (by intro k _; simp)) rfl)
              have hbB : wr.row? B = some z32 := by rw [HCJ.out.row (row_lt HRB.out) (by rw [List.mem_singleton]; exact HAP.out.2.2.2.2.2)]; exact HRB.out
              have HXB : Hid (X.row? B = some z32) := Lib.hid (by rw [hcX.row (row_lt hbB) (by simp)]; exact hbB)
              have HBD : Hid (B ≠ D) := Lib.hid (by have := row_lt hbB; omega)
              have HCWX : Hid (Chg [] W X) := Lib.hid ((chg_new HCW0.out HCJ.out (by intro g hg; rw [List.mem_singleton] at hg; subst hg; exact HAP.out.2.2.2.1)).trans hcX)
              have HGD : Hid (gh ≠ D ∧ W.heap.size ≤ D) := Lib.hid ⟨by have := (HOJ.out.lt gh rfl).2; omega, by rw [hD]; exact Nat.le_trans HCW0.out.size HCJ.out.size⟩
              have HRD := Lib.hid hrD
              have HDN : Hid (D = wr.heap.size) := Lib.hid hD
              have HX : Hid (X = wr.alloc (.cells #[.int .u8 0, .int .u8 0, .int .u8 0, .int .u8 0, .int .u8 0, .int .u8 0, .int .u8 0, .int .u8 0, .int .u8 0, .int .u8 0, .int .u8 0, .int .u8 0, .int .u8 0, .int .u8 0, .int .u8 0, .int .u8 0, .int .u8 0, .int .u8 0, .int .u8 0, .int .u8 0, .int .u8 0, .int .u8 0, .int .u8 0, .int .u8 0, .int .u8 0, .int .u8 0, .int .u8 0, .int .u8 0, .int .u8 0, .int .u8 0, .int .u8 0, .int .u8 0] 24)) := Lib.hid (by rw [hX]; rfl)
              clear hjn hle hhh hX hD hrD hcX hbB hjb
              go_upto_region 38 with (fail)
              rw [← HX.out, ← HDN.out]
              clear HX dI dIN
              go_wp2_with fail
              go_loopw [21] (fun i wq => ∃ q : Nat, q ≤ 32 ∧ i = .int .i64 q ∧ wq.row? D = some (natL .u8 (outN hh q)).toArray ∧ Chg [D] X wq) (fun i _ => 32 - (intOf i).toNat)
              case atStart => exact ⟨0, by omega, rfl, HRD.out, Chg.refl _ _⟩
              case round =>
                obtain ⟨i, hi, rfl, hr, hch⟩ := hrel
                have HRW := Lib.hid hr
                have HC4 := Lib.hid hch
                have HI := Lib.hid hi
                clear hr hch hi
                by_cases hi2 : i < 32
                · have HI2 := Lib.hid hi2
                  have dk : decide ((i : Int) < 32) = true := by rw [decide_eq_true_eq]; omega
                  have hiI : (i : Int) < 32 := by omega
                  obtain ⟨x, hx⟩ : ∃ x, x = hh.getD (i / 4) 0 := ⟨_, rfl⟩
                  have cx : wr.cell? ⟨gh, i / 4, none⟩ = some (.int .u64 (x : Int)) := (HXO.out.keep HC4.out (by rw [List.mem_singleton]; exact HGD.out.1)).get (i / 4) x (by rw [HHL.out]; omega) hx
                  obtain ⟨y, hy⟩ : ∃ y, y = (outN hh i).getD i 0 := ⟨_, rfl⟩
                  have cy : wr.cell? ⟨D, i, none⟩ = some (.int .u8 (y : Int)) := by rw [row_cell HRW.out, natL_get _ _ _ (by rw [outN_len]; exact hi2), hy]
                  have fy : wr.frozen? ⟨D, i, none⟩ = false := row_free HRW.out _
                  have HE2 : Hid ((x : Int) / 2 ^ (24 - 8 * (i % 4)) % 256 = (digB hh i : Int)) := Lib.hid (by unfold digB; rw [hx, Int.natCast_emod, Int.natCast_ediv, Int.natCast_pow]; rfl)
                  clear hx hy hi2
                  go_wp2_with fail
                  rw [HE2.out]
                  refine ⟨⟨i + 1, HI2.out, rfl, ?_, HC4.out.setCell (.inl (List.mem_singleton.2 rfl)) _⟩, by simp only [intOf]; have := HI2.out; omega⟩
                  rw [row_setCell_same, HRW.out]
                  show some ((natL .u8 (outN hh i)).toArray.setIfInBounds i (.int .u8 (digB hh i : Int))) = _
                  rw [natL_set, outN_set _ _ HI2.out]
                · have hi32 : i = 32 := by have := HI.out; omega
                  have dk : decide ((i : Int) < 32) = false := by rw [decide_eq_false_iff_not]; omega
                  have hr := HRW.out
                  rw [hi32, ← HRF.out] at hr
                  have HRF2 := Lib.hid hr
                  have HZ : Hid (wr.row? B = some z32) := Lib.hid (by rw [HC4.out.row (row_lt HXB.out) (by rw [List.mem_singleton]; exact HBD.out)]; exact HXB.out)
                  have HLN : Hid ((natL .u8 (refN L)).length = 32) := Lib.hid (by rw [natL_len, HRF.out]; exact outN_len _ _)
                  have HSZ2 : Hid ((natL .u8 (refN L)).toArray.size = 32) := Lib.hid HLN.out
                  have HON := Lib.hid (natU8_one (refN L))
                  have HCF : Hid (Chg [] W wr) := Lib.hid (chg_new HCWX.out HC4.out (by intro g hg; rw [List.mem_singleton] at hg; subst hg; exact HGD.out.2))
                  clear hr hi32 dk
                  have dk : decide ((i : Int) < 32) = false := by rw [decide_eq_false_iff_not]; omega
                  go_wp2_with (first | (refine wpList_load_part a24 (natL .u8 (refN L)) rfl _ rfl rfl HLN.out (fun j u hu => by rw [Nat.zero_add, row_cell HRF2.out, ← hu]; simp) ?_) | (refine wpList_store_row a24 _ _ rfl rfl rfl rfl rfl HZ.out rfl HSZ2.out HON.out ?_))
                  refine bodyPost_ret (ret_cell1 (cs := (natL .u8 (refN L)).toArray) rfl a24 rfl (by rw [row_setRow, if_pos rfl, HZ.out]; rfl) HSZ2.out) rfl ⟨rfl, HCF.out.setRow (.inr (by rw [HB.out]; exact Nat.le_refl _)) _⟩
        · have e0 : ((b + 1 : Nat) : Int) - 1 = (b : Int) := by omega
          rw [e0]
          have bI : (b : Int) < 8 := by omega
          have HSB := Lib.hid hsb
          obtain ⟨k8, hk8⟩ : ∃ z, z = k * 8 := ⟨_, rfl⟩
          have hk8l : k8 < 1000000000 := by have := HK2.out; omega
          have ww1 : wrap64 ((k : Int) * 8) = (k8 : Int) := by rw [show (k : Int) * 8 = (k8 : Int) by omega]; exact idw64 hk8l
          have ww2' : IntKind.i64.wrap ((k : Int) * 8) = (k8 : Int) := by rw [show (k : Int) * 8 = (k8 : Int) by omega]; exact idi64 hk8l
          have hs7 : 56 - 8 * s = 8 * b := by omega
          obtain ⟨x, hx⟩ : ∃ x, x = lenB k s := ⟨_, rfl⟩
          have ex : (k8 : Int) / 2 ^ (8 * b) % 256 = (x : Int) := by rw [hx, lenB, hs7, hk8, Int.natCast_emod, Int.natCast_ediv, Int.natCast_pow]; rfl
          have HS8 : Hid (s < 8) := Lib.hid (by have := HSB.out; omega)
          have HTK : Hid ((lenL k).take (s + 1) = (lenL k).take s ++ [x]) := Lib.hid (by rw [hx]; exact take_succN _ _ _ (lenL_get k s HS8.out))
          obtain ⟨n5, hn5⟩ : ∃ z, z = n + s := ⟨_, rfl⟩
          rw [← hn5] at HO ⊢
          have HN5 := Lib.hid hn5
          obtain ⟨X3, hX⟩ : ∃ X, X = wr.alloc (.cells #[.int .u8 (x : Int)] 5) := ⟨_, rfl⟩
          obtain ⟨b5, hb5⟩ : ∃ b, b = wr.heap.size := ⟨_, rfl⟩
          have HCX3 : Hid (Chg [] ww2 X3) := Lib.hid (by rw [hX]; exact HCH2.out.alloc _)
          have HRX3 : Hid (X3.row? b5 = some #[.int .u8 (x : Int)]) := Lib.hid (by rw [hX]; exact row_alloc_at _ _ _ _ hb5)
          have HOX3 : Hid (X3.ownsRow ww2.heap.size 5 1 (.slice p6 n5 c6) n5 ((L2 ++ (lenL k).take s).map fun x : Nat => Value.int .u8 (x : Int))) := Lib.hid (by rw [hX]; exact HO.out.alloc _)
          have HX3 := Lib.hid hX
          have HB5 := Lib.hid hb5
          have HN6 : Hid (n5 + 1 < 100000000) := Lib.hid (by have := HK2.out; have := HNK.out; have := HKK.out; unfold padK at this; omega)
          clear hk8 hk8l hs7 hx hn5 hX hb5
          go_wp2_with (at_builtin; rw [← HB5.out, ← HX3.out]; refine app_nat rfl _ _ 22 5 .u8 1 rfl Tryd.underlying22 info5 (by decide) ww2.heap.size (.slice p6 n5 c6) n5 (L2 ++ (lenL k).take s) rfl HOX3.out b5 0 1 1 [x] rfl rfl (one_cell HRX3.out) HN6.out HCX3.out.size ?_)
          intro v2 w5 hx1 hx2
          have HC5 : Hid (Chg [] ww2 w5) := Lib.hid (chg_grown HCX3.out hx2 (fun x hx => (HOX3.out.lt x hx).1))
          have HO5 : Hid (w5.ownsRow ww2.heap.size 5 1 v2 (n + (s + 1)) ((L2 ++ (lenL k).take (s + 1)).map fun x : Nat => Value.int .u8 (x : Int))) := Lib.hid (by
            rw [HTK.out, ← List.append_assoc, List.map_append, ← Nat.add_assoc, ← HN5.out]
            simpa using hx1)
          clear hx1 hx2
          go_wp2
          case roundEnd => exact ⟨⟨s + 1, b, by have := HSB.out; omega, rfl, HO5.out, HC5.out⟩, by simp only [intOf]; omega⟩
    · have d2 : ((m : Int) != 56) = true := by rw [bne_iff_ne]; omega
      have d3 : ((m : Int) == 56) = false := by rw [Bool.eq_false_iff]; simp; omega
      obtain ⟨X2, hX⟩ : ∃ X, X = wr.alloc (.cells #[.int .u8 0] 5) := ⟨_, rfl⟩
      obtain ⟨b4, hb4⟩ : ∃ b, b = wr.heap.size := ⟨_, rfl⟩
      have HCX2 : Hid (Chg [] ww2 X2) := Lib.hid (by rw [hX]; exact HCH.out.alloc _)
      have HRX2 : Hid (X2.row? b4 = some #[.int .u8 ((0 : Nat) : Int)]) := Lib.hid (by rw [hX]; exact row_alloc_at _ _ _ _ hb4)
      have HOX2 : Hid (X2.ownsRow ww2.heap.size 5 1 (.slice p5 n c5) n ((L1 ++ List.replicate j 0).map fun x : Nat => Value.int .u8 (x : Int))) := Lib.hid (by rw [hX]; exact HO.out.alloc _)
      have HX2 := Lib.hid hX
      have HB4 := Lib.hid hb4
      clear hX hb4
      go_wp2_with (at_builtin; rw [← HB4.out, ← HX2.out]; refine app_nat rfl _ _ 22 5 .u8 1 rfl Tryd.underlying22 info5 (by decide) ww2.heap.size (.slice p5 n c5) n (L1 ++ List.replicate j 0) rfl HOX2.out b4 0 1 1 [0] rfl rfl (one_cell HRX2.out) (by have := HK2.out; have := HN.out; have := HJ.out; have := HKK.out; unfold padK at this; omega) HCX2.out.size ?_)
      intro v2 w5 hx1 hx2
      have HC5 : Hid (Chg [] ww2 w5) := Lib.hid (chg_grown HCX2.out hx2 (fun x hx => (HOX2.out.lt x hx).1))
      have HO5 : Hid (w5.ownsRow ww2.heap.size 5 1 v2 (k + 1 + (j + 1)) ((L1 ++ List.replicate (j + 1) 0).map fun x : Nat => Value.int .u8 (x : Int))) := Lib.hid (by
        rw [List.replicate_succ', ← List.append_assoc, List.map_append, ← Nat.add_assoc, ← HN.out]
        simpa using hx1)
      have HLV : Hid (lenV v2 = n + 1) := Lib.hid (by obtain ⟨_, _, rfl, _⟩ := own_form HO5.out; show k + 1 + (j + 1) = n + 1; have := HN.out; omega)
      clear hx1 hx2
      go_wp2
      case roundEnd =>
        refine ⟨⟨j + 1, by have := HP1.out h56; omega, HO5.out, HC5.out⟩, ?_⟩
        rw [HLV.out]
        show _ < (120 - n % 64) % 64
        have := HM.out
        omega
end Go.Proofs.L
