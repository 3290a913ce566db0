/- Proved here: lemmas and contracts (Lk12) for the laws of this seat, for all values of the stated types; no further condition. -/
import Derived.Test.YtjbplncpcgfaoaaLk11
open Go Go.RowKit Go.Lib Go.Maps
namespace Go.Proofs.L
attribute [local irreducible] wpT
/-! the reference's place -/
def RosAt (w : World) (b o : Nat) (L : List Ob) (T : List Rb) : Prop := ∀ (j : Nat) (s : Ob) (t : Rb), L[j]? = some s → T[j]? = some t → ∀ i u, (roA s t).toList[i]? = some u → w.cell? ⟨b, o + j * 5 + i, none⟩ = some u
theorem RosAt.keep {w w' : World} {b o : Nat} {L : List Ob} {T : List Rb} (h : RosAt w b o L T) (hc : Chg [] w w') : RosAt w' b o L T := fun j s t hs ht i u hu => keepc (h j s t hs ht i u hu) hc (by simp)
theorem a82 : aggT Try.prog 82 5 := aggT_of (by kernel_rfl)
def preK (L : List Ob) : Nat → Nat
  | 0 => 256
  | 1 => 256 + sumO L 0 L.length
  | _ => bsF L 2
theorem pre_next (L : List Ob) (k : Nat) (h : k < 2) : bsF L k + sumO L (k : Int) L.length = preK L (k + 1) := by
  rcases k with _ | _ | k
  · rfl
  · rfl
  · omega
theorem quo16 (n : Nat) : Int.tdiv (n : Int) 16 = ((n / 16 : Nat) : Int) := by
  rw [Int.tdiv_eq_ediv_of_nonneg (by omega)]; omega
set_option maxRecDepth 100000 in
set_option maxHeartbeats 4000000 in
theorem place_any {W : World} {p : Option Addr} {b o n c : Nat} {L : List Ob} {T : List Rb} (hS : RosAt W b o L T) (hn : L.length = n) (hT : T.length = n) (h16 : n ≤ 16) (hp : 0 < n → p = some ⟨b, o, none⟩) (hz : ∀ s ∈ L, s.nc ≤ 16384 ∧ s.nd ≤ 16384 ∧ s.z ≤ 16384) (i s : Nat) (hi : i < n) (hs : s ≤ 2) :
    Calls Try.prog 23 #[.slice p n c, .int .i64 (i : Int), .int .i64 (s : Int)] W fun e w' => e = .returned (.int .i64 ((bsF L s + sumO L (s : Int) i : Nat) : Int)) ∧ Chg [] W w' := by
  have HS : Hid (∀ V, Chg [] W V → RosAt V b o L T) := Lib.hid fun V hV => hS.keep hV
  have HN := Lib.hid hn
  have HT := Lib.hid hT
  have H16 := Lib.hid h16
  have HI := Lib.hid hi
  have HSS := Lib.hid hs
  have HSZ := Lib.hid hz
  have HSM : Hid (∀ (k : Int) i, i ≤ 16 → sumO L k i ≤ 262144) := Lib.hid fun k i hi => Nat.le_trans (sumO_le k hz i) (by omega)
  have HBL : Hid (∀ q, bsF L q ≤ 600000) := Lib.hid fun q => bsF_le HSM.out (by rw [hn]; exact h16) q
  obtain rfl := hp (by omega)
  clear hS hn hT h16 hp hz hi hs
  go_enter Try.func23, Try.ntmps23
  go_wp2_with fail
  go_loopw [8, 7] (fun q v wr => ∃ k : Nat, k ≤ s ∧ q = .int .i64 (k : Int) ∧ v = .int .i64 (preK L k : Int) ∧ Chg [] W wr) (fun q _ _ => 3 - (intOf q).toNat)
  case atStart => exact ⟨0, Nat.zero_le _, rfl, rfl, Chg.refl _ _⟩
  case round =>
    obtain ⟨k, hk, rfl, rfl, hch⟩ := hrel
    have HK := Lib.hid hk
    have HCH := Lib.hid hch
    have dI : (k : Int) ≤ (s : Int) := by omega
    have dN : k ≤ s := hk
    have HWK := Lib.hid (wrapK k (by have := HSS.out; omega))
    obtain ⟨pk, hpk⟩ : ∃ x, x = preK L k := ⟨_, rfl⟩
    rw [← hpk]
    have HPK := Lib.hid hpk
    clear hk hch hpk
    have HK3 : Hid (k < 3) := Lib.hid (by have := HK.out; have := HSS.out; omega)
    have HPL : Hid (pk ≤ 600000) := Lib.hid (by
      rw [HPK.out]
      have h0 := HSM.out 0 L.length (by have := HN.out; have := H16.out; omega)
      have h1 := HBL.out 2
      match k with
      | 0 => simp [preK]
      | 1 => simp only [preK]; omega
      | k + 2 => simp only [preK]; omega)
    go_upto_if 16 with (fail)
    go_cut [7] (fun v wx => v = .int .i64 (bsF L k : Int) ∧ wx = wr)
    case first =>
      by_cases k1 : k = 1
      · have b1 : ((k : Int) == 1) = true := by rw [k1]; rfl
        have HE : Hid (wrap64 (wrap64 ((wrap64 ((pk : Int) + 15)).tdiv 16) * 16) = (bsF L k : Int)) := Lib.hid (by
          have h1 := HPL.out
          rw [show wrap64 ((pk : Int) + 15) = ((pk + 15 : Nat) : Int) from w64add (b := 15) (by omega), quo16]
          rw [IntWalk.wrap64_in ((((pk + 15) / 16 : Nat)) : Int) ⟨by omega, by omega⟩, IntWalk.wrap64_in _ ⟨by omega, by omega⟩, HPK.out, k1]
          simp only [preK, bsF, upN]
          omega)
        clear k1
        go_wp2_with fail
        go_meet
        exact ⟨congrArg (Value.int .i64) HE.out, rfl⟩
      · have b1 : ((k : Int) == 1) = false := beq_eq_false_iff_ne.2 (by omega)
        have HE : Hid ((pk : Int) = (bsF L k : Int)) := Lib.hid (by
          rw [HPK.out]
          have := HK3.out
          match k, k1, this with
          | 0, _, _ => rfl
          | 1, h, _ => exact absurd rfl h
          | 2, _, _ => rfl)
        clear k1
        go_wp2_with fail
        go_meet
        exact ⟨congrArg (Value.int .i64) HE.out, rfl⟩
    case rest =>
      obtain ⟨rfl, h⟩ := hcut
      obtain rfl := h.symm
      clear dI dN
      go_wp2_with fail
      go_loopw [9, 7] (fun q v wr => ∃ j : Nat, j ≤ n ∧ (k = s → j ≤ i) ∧ q = .int .i64 (j : Int) ∧ v = .int .i64 ((bsF L k + sumO L (k : Int) j : Nat) : Int) ∧ Chg [] W wr) (fun q _ _ => n - (intOf q).toNat)
      case atStart => exact ⟨0, Nat.zero_le _, fun _ => Nat.zero_le _, rfl, by rw [sumO_zero]; rfl, HCH.out⟩
      case round =>
        obtain ⟨j, hj, hji, rfl, rfl, hch⟩ := hrel
        have HJ := Lib.hid hj
        have HJI := Lib.hid hji
        have HC2 := Lib.hid hch
        obtain ⟨x, hx⟩ : ∃ x, x = bsF L k + sumO L (k : Int) j := ⟨_, rfl⟩
        rw [← hx]
        have HX := Lib.hid hx
        clear hj hji hch hx
        by_cases hjn : j < n
        · have HJN := Lib.hid hjn
          have dJ : (j : Int) < (n : Int) := by omega
          have dJn : j < n := hjn
          by_cases he : k = s ∧ j = i
          · obtain ⟨rfl, rfl⟩ := he
            clear hjn
            go_wp2
            go_ret
            exact ⟨congrArg (fun q : Nat => Ending.returned (Value.int .i64 (q : Int))) HX.out, HC2.out⟩
          · have HE := Lib.hid he
            obtain ⟨ob, hob⟩ : ∃ t, L[j]? = some t := ⟨_, List.getElem?_eq_getElem (by rw [HN.out]; exact hjn)⟩
            obtain ⟨tb, htb⟩ : ∃ t, T[j]? = some t := ⟨_, List.getElem?_eq_getElem (by rw [HT.out]; exact hjn)⟩
            have HO := Lib.hid hob
            have HSC := Lib.hid (HS.out _ HC2.out j ob tb hob htb)
            have HWJ := Lib.hid (wrapK j (by have := H16.out; omega))
            obtain ⟨y, hy⟩ : ∃ y, y = x + sizeR ob (k : Int) := ⟨_, rfl⟩
            have HY : Hid (y = bsF L k + sumO L (k : Int) (j + 1)) := Lib.hid (by rw [hy, HX.out, sumO_succ hob, sizeR_eq _ _ (by omega) (by have := HK3.out; omega)]; omega)
            have HWY : Hid (wrap64 ((x : Int) + (sizeR ob (k : Int) : Int)) = (y : Int)) := Lib.hid (by
              have h1 := HBL.out k
              have h2 := HSM.out (k : Int) (j + 1) (by have := H16.out; omega)
              have h3 := HY.out
              rw [hy]
              exact w64add (by omega))
            clear hob htb hy hjn
            by_cases hks : k = s
            · have bk : ((k : Int) == (s : Int)) = true := by rw [hks]; exact beq_self_eq_true _
              have bj : ((j : Int) == (i : Int)) = false := beq_eq_false_iff_ne.2 (by intro e; exact he ⟨hks, by omega⟩)
              clear he hks
              go_wp2_with (refine wpList_load_part a82 (roA ob tb).toList rfl _ rfl rfl rfl HSC.out ?_)
              refine (rsize_any ob tb (k : Int) _).mono ?_
              rintro e w5 ⟨rfl, hc5⟩
              have HC5 := Lib.hid (HC2.out.trans hc5)
              clear hc5
              go_wp2_with fail
              case roundEnd => exact ⟨⟨j + 1, HJN.out, fun h => by have := HJI.out h; have := HE.out; omega, by rw [HWJ.out], by rw [HWY.out, HY.out], HC5.out⟩, by rw [HWJ.out]; simp only [intOf, Int.toNat_natCast]; have := HJN.out; omega⟩
            · have bk : ((k : Int) == (s : Int)) = false := beq_eq_false_iff_ne.2 (by omega)
              clear he
              go_wp2_with (refine wpList_load_part a82 (roA ob tb).toList rfl _ rfl rfl rfl HSC.out ?_)
              refine (rsize_any ob tb (k : Int) _).mono ?_
              rintro e w5 ⟨rfl, hc5⟩
              have HC5 := Lib.hid (HC2.out.trans hc5)
              clear hc5
              go_wp2_with fail
              case roundEnd => exact ⟨⟨j + 1, HJN.out, fun h => absurd h hks, by rw [HWJ.out], by rw [HWY.out, HY.out], HC5.out⟩, by rw [HWJ.out]; simp only [intOf, Int.toNat_natCast]; have := HJN.out; omega⟩
        · have dJ : ¬ (j : Int) < (n : Int) := by omega
          have hks : Hid (k < s) := Lib.hid (by
            have := HK.out
            rcases Nat.lt_or_ge k s with h | h
            · exact h
            · have := HJI.out (by omega); have := HI.out; omega)
          obtain rfl : j = n := by have := HJ.out; omega
          clear hjn
          go_wp2_with fail
          case roundEnd => exact ⟨⟨k + 1, hks.out, by rw [HWK.out], by rw [HX.out, ← pre_next L k (by have := hks.out; have := HSS.out; omega), HN.out], HC2.out⟩, by rw [HWK.out]; simp only [intOf, Int.toNat_natCast]; have := HK3.out; omega⟩
end Go.Proofs.L
