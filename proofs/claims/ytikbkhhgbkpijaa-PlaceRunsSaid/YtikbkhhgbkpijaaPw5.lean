/- Proved here: lemmas and contracts (Pw5) for the laws of this seat, for all values of the stated types; no further condition. -/
import Derived.Test.YtikbkhhgbkpijaaPw4
open Go Go.RowKit Go.Lib Go.Maps
namespace Go.Proofs.L
attribute [local irreducible] wpT
/-! like: the two memories hold the same -/
theorem cN_mono (q : Nat → Bool) {k : Nat} : ∀ n, k ≤ n → cN k q ≤ cN n q
  | 0, h => by obtain rfl : k = 0 := by omega
               exact Nat.le_refl _
  | n + 1, h => by
    by_cases e : k = n + 1
    · subst e; exact Nat.le_refl _
    · have := cN_mono q (k := k) n (by omega)
      exact Nat.le_trans this (Nat.le_add_right _ _)
theorem cN_down {f : Nat → Nat} {k s : Nat} (hk : k < 65536) (hs : s + cN k (nz f) = cN 65536 (nz f)) (h0 : f k ≠ 0) : 1 ≤ s ∧ (s - 1) + cN (k + 1) (nz f) = cN 65536 (nz f) := by
  have h1 := cN_mono (nz f) 65536 (show k + 1 ≤ 65536 by omega)
  have h2 : cN (k + 1) (nz f) = cN k (nz f) + 1 := by
    show cN k (nz f) + (if nz f k then 1 else 0) = _
    rw [if_pos (by unfold nz; simpa using h0)]
  omega
theorem cN_same {f : Nat → Nat} {k : Nat} (h0 : f k = 0) : cN (k + 1) (nz f) = cN k (nz f) := by
  show cN k (nz f) + (if nz f k then 1 else 0) = _
  rw [if_neg (by unfold nz; simp [h0])]
  rfl
set_option maxRecDepth 100000 in
set_option maxHeartbeats 1600000 in
theorem like_any {w : World} {b p m N : Nat} {f : Nat → Nat} (hm : w.row? b = some (mem f)) (hR : RamAt w p m N f) :
    Calls Try.prog 21 #[.pointer (some ⟨b, 0, none⟩), .pointer (some ⟨p, 0, none⟩)] w fun e w' => e = .returned (.bool true) ∧ Chg [] w w' := by
  have hg := get_ok f 2147483648 0 65536 b (by decide) (by decide) w hm
  have HR := Lib.hid hR
  clear hR hm
  go_enter Try.func21, Try.ntmps21
  go_wp2_with fail
  refine hg.mono ?_
  rintro e w1 ⟨v, rfl, hown, hch⟩
  clear hg
  obtain ⟨q, c, rfl, hq⟩ := own_form hown
  obtain ⟨g, rfl, hgb⟩ := hq (by decide)
  have HOW : Hid (∀ W, Chg [] w1 W → ∀ i, i < 65536 → W.cell? ⟨g, i, none⟩ = some (.int .u8 (f i : Int))) := Lib.hid fun W hW i hi =>
    cell_keep (cellsAt hown hgb i _ (by unfold u8L; rw [List.getElem?_map, gtL_get f 0 65536 i hi, Nat.zero_add]; rfl)) hW (by simp)
  have HCH := Lib.hid hch
  obtain ⟨D, hmap, hMF⟩ := (HR.out.keep hch (by simp) (by simp)).own
  have HMF := Lib.hid hMF
  have HMP := Lib.hid hmap
  have C0 : Hid (w1.cell? ⟨p, 0, none⟩ = some (.map (some m))) := Lib.hid (by rw [row_cell (HR.out.keep hch (by simp) (by simp)).row]; rfl)
  have c0 := C0.out
  clear hown hch hgb hq hmap hMF
  go_upto_region 5 with (fail)
  go_wp2_with (first | (at_range; refine wpList_range_own _ rfl _ 73 rfl 3 5 kd3 Try.underlying73 _ m N _ rfl HMP.out ?_; intro w0 hrg0 hg0 hs0) | (fail))
  go_frame
  obtain ⟨r, hr⟩ : ∃ r, r = w1.heap.size := ⟨_, rfl⟩
  rw [← hr] at hrg0 ⊢
  have hc0 : Chg [] w1 w0 := by simpa using grown_chg hg0
  clear hg0 c0
  have HR0 := Lib.hid hr
  have HRG0 := Lib.hid hrg0
  have HC0 := Lib.hid hc0
  clear hr hrg0 hc0 hs0
  go_loopw [7, 8] (fun n _ wr => ∃ (left : Lit → Bool) (cnt : Nat), n = .int .i64 (cN 65536 (metQ f left) : Int) ∧ wr.ranges Try.prog 3 (plainElem Try.prog 5) m r N D left cnt ∧ Chg [] w1 wr) (fun _ _ wr => wr.rangeLeft m r)
  case atStart => exact ⟨_, _, by rw [met_start HMF.out]; rfl, HRG0.out, HC0.out⟩
  case round =>
    obtain ⟨left, cnt, rfl, hrg, hcw⟩ := hrel
    have HRG := Lib.hid hrg
    have HCW := Lib.hid hcw
    clear hrg hcw
    go_wp2_with (first | (at_next; refine wpList_next_ranges_ii _ rfl _ rfl 3 5 .i64 .u8 kd3 Try.underlying3 Try.underlying5 m r N _ _ _ rfl HRG.out ?_ ?_) | (fail))
    · intro _ hl0
      have HL0 := Lib.hid hl0
      clear hl0
      rw [met_end HL0.out]
      go_wp2_with (fail)
      go_loopw [7, 11, 42] (fun n _ i wr' => ∃ k s : Nat, k ≤ 65536 ∧ s + cN k (nz f) = cN 65536 (nz f) ∧ n = .int .i64 (s : Int) ∧ i = .int .i64 (k : Int) ∧ wr' = wr) (fun _ _ i _ => 65536 - (intOf i).toNat)
      case atStart => exact ⟨0, _, by decide, Nat.add_zero _, rfl, rfl, rfl⟩
      case round =>
        obtain ⟨k, s, hk, hs, rfl, rfl, rfl⟩ := hrel
        have HK := Lib.hid hk
        have HS := Lib.hid hs
        clear hk hs
        by_cases hkn : k < 65536
        · have HKN := Lib.hid hkn
          have dI : (k : Int) < (65536 : Int) := by omega
          have HW : Hid (wrap64 ((k : Int) + 1) = ((k + 1 : Nat) : Int)) := Lib.hid (wrap1 k (by omega))
          obtain ⟨y, hy⟩ : ∃ y, y = f k := ⟨_, rfl⟩
          have C2 : Hid (wr.cell? ⟨g, k, none⟩ = some (.int .u8 (y : Int))) := Lib.hid (by rw [hy]; exact HOW.out _ HCW.out k hkn)
          have HY := Lib.hid hy
          clear hy
          have c2 := C2.out
          by_cases h0 : y = 0
          · subst h0
            go_wp2_with (fail)
            case roundEnd => exact ⟨⟨k + 1, s, HKN.out, by rw [cN_same HY.out.symm]; exact HS.out, rfl, rfl, trivial⟩, by have := HKN.out; show 65536 - (((k : Int) + 1)).toNat < 65536 - ((k : Int)).toNat; omega⟩
          · have b0 : ((y : Int) != 0) = true := by rw [bne_iff_ne]; omega
            go_wp2_with (fail)
            case roundEnd =>
              obtain ⟨h1, h2⟩ := cN_down HKN.out HS.out (by rw [← HY.out]; exact h0)
              have h3 := cN_le (nz f) 65536
              exact ⟨⟨k + 1, s - 1, HKN.out, h2, by rw [IntWalk.wrap64_in _ ⟨by omega, by have := HS.out; omega⟩, show ((s : Int) - 1) = ((s - 1 : Nat) : Int) by omega], rfl, trivial⟩, by have := HKN.out; show 65536 - (((k : Int) + 1)).toNat < 65536 - ((k : Int)).toNat; omega⟩
        · obtain rfl : k = 65536 := by have := HK.out; omega
          obtain rfl : s = 0 := by have := HS.out; omega
          go_wp2_with (fail)
          go_ret
          exact ⟨rfl, HCH.out.trans HCW.out⟩
    · intro x c' w2 cnt1 hwx hwc hlx hat hrg1 hlt hg1 hs1 hen
      obtain ⟨i, hi, hk⟩ := HMF.out.has_ _ (has_true_of_atKey hat)
      have hci := HMF.out.at_ i hi
      rw [← hk, hat] at hci
      injection hci with h3
      injection h3 with _ h4
      rw [hk] at hlx
      have HRG1 : Hid (w2.ranges Try.prog 3 (plainElem Try.prog 5) m r N D (fun z => left z && !z.sameKey (keyN i)) cnt1) := Lib.hid (by rw [← hk]; exact hrg1)
      injection hk with _ hx
      obtain ⟨X, hX⟩ : ∃ X : Nat, X = 2147483648 + i := ⟨_, rfl⟩
      rw [← hX] at hx
      subst hx h4
      have HCW2 : Hid (Chg [] w1 w2) := Lib.hid (chg_grown HCW.out hg1 (fun k hk => by obtain rfl := Option.some.inj hk; rw [HR0.out]; exact Nat.le_refl _))
      obtain ⟨y, hy⟩ : ∃ y, y = f i := ⟨_, rfl⟩
      have C2 : Hid (w2.cell? ⟨g, i, none⟩ = some (.int .u8 (y : Int))) := Lib.hid (by rw [hy]; exact HOW.out _ HCW2.out i hi)
      have HWX : Hid (wrap64 ((X : Int) - 2147483648) = (i : Int)) := Lib.hid (by rw [IntWalk.wrap64_in _ ⟨by omega, by omega⟩]; omega)
      have HT := Lib.hid (cN_le (metQ f left) 65536)
      have HI := Lib.hid hi
      have HLX := Lib.hid hlx
      have HLT := Lib.hid hlt
      rw [← hy] at hen ⊢
      have HY := Lib.hid hy
      clear hX hy hlx hat hrg1 hlt hg1 hs1 hwx hwc
      have c2 := C2.out
      have wX := HWX.out
      by_cases h0 : y = 0
      · subst h0
        go_wp2_with (fail)
        case roundEnd => exact ⟨⟨_, cnt1, by rw [met_z HY.out.symm], HRG1.out, HCW2.out⟩, by rw [HRG1.out.left_eq, HRG.out.left_eq]; exact HLT.out⟩
      · have b0 : ((y : Int) != 0) = true := by rw [bne_iff_ne]; omega
        go_wp2_with (fail)
        case roundEnd => exact ⟨⟨_, cnt1, by rw [met_nz HI.out HLX.out (by rw [← HY.out]; exact h0), wrap1 _ (by have := HT.out; omega)], HRG1.out, HCW2.out⟩, by rw [HRG1.out.left_eq, HRG.out.left_eq]; exact HLT.out⟩
end Go.Proofs.L
