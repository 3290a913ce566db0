/- Proved here: lemmas and contracts (PlainWalk) for the laws of this seat, for all values of the stated types; no further condition. -/
import Derived.Test.YtfalldoimbedbaaWords
open Go Go.RowKit Go.Lib
namespace Go.Proofs.L
attribute [local go_sem ↓] ld32 st32
attribute [local go_sem] eq32
theorem wpT_skipD {P : Program} {Q : Exit → Act → World → Prop} {ops : Array Oper} {S : World → Prop} {r : List (Nat × Nat)} {a : Act} {w : World} {i c : Nat} {o : Oper} (d : Option Tmp) (ho : ops[i]? = some o) (hd : o.dst = d) (hw : Region.wanted o (yielded ops a.tmps) = false)
    (h : wpT P ops Q S r (a.put d undef) w) : wpT P ops Q S ((i, c) :: r) a w := by subst hd; exact wpT_skip ho hw h
set_option maxRecDepth 100000 in
set_option maxHeartbeats 6400000 in
theorem plain_walk (p1 : Option Addr) (n1 k1 b1 o1 : Nat) (X : Nat → Nat) (w : World) (h1 : n1 ≤ 300) (hp1 : 0 < n1 → p1 = some ⟨b1, o1, none⟩)
    (hc1 : ∀ k, k < n1 → w.cell? ⟨b1, o1 + k, none⟩ = some (.int .u32 (X k : Int))) :
    Calls Try.prog 4 #[.slice p1 n1 k1] w fun e w' => e = .returned (.bool true) ∧ Below w.heap.size w w' := by
  have dl1 : decide ((n1 : Int) > 300) = false := by simp; omega
  have dl4 : decide (300 < (n1 : Int)) = false := by simp; omega
  have HC1 := Lib.hid hc1
  have HP1 := Lib.hid hp1
  have HL1 := Lib.hid h1
  clear hc1 hp1 h1
  go_enter Try.func4, Try.ntmps4
  go_wp2_with fail
  refine (fit_ok w).mono ?_
  rintro e w0 ⟨rfl, hB0⟩
  have HB0 := Lib.hid hB0
  clear hB0
  go_wp2_with fail
  refine (new_any w0).mono ?_
  rintro e w1 ⟨rfl, hF1, hC1⟩
  have HB1 : Hid (Below w.heap.size w w1) := Lib.hid (chg_below HB0.out hC1 (by simp) HB0.out.size)
  have HF1 := Lib.hid hF1
  have HN : Hid (w.heap.size ≤ w0.heap.size) := Lib.hid HB0.out.size
  clear hF1 hC1 HB0
  generalize w0.heap.size = b at *
  go_wp2_with fail
  go_loopw [17, 4] (fun i o wr => ∃ (k c : Nat) (S : FS), k ≤ n1 ∧ i = .int .i64 k ∧ o = .int .u32 (c : Int) ∧ c ≤ 1000 * k ∧ S.Ok ∧ Live S ∧ counter S.f = c ∧ Fl wr b S ∧ Below w.heap.size w wr) (fun i _ _ => n1 - (intOf i).toNat)
  case atStart => exact ⟨0, 0, newS, Nat.zero_le _, rfl, rfl, Nat.le_refl _, newS_ok, ⟨rfl, rfl⟩, by decide +kernel, HF1.out, HB1.out⟩
  case round =>
    obtain ⟨k, c, S, hk, rfl, rfl, hck, hS, hL, hcn, hF, hB⟩ := hrel
    obtain ⟨wo, rfl⟩ : ∃ wo : World, wo = wr := ⟨_, rfl⟩
    have HS := Lib.hid hS
    have HL := Lib.hid hL
    have HK := Lib.hid hcn
    have HF := Lib.hid hF
    have HB := Lib.hid hB
    have HCK := Lib.hid hck
    clear hS hL hcn hF hB hck
    by_cases hlt : k < n1
    · have dk : decide ((k : Int) < (n1 : Int)) = true := by simp; omega
      have q1 := HC1.out k hlt
      have hsb := World.block_lt_of_cell? w _ q1
      have s1 : wo.cell? ⟨b1, o1 + k, none⟩ = some (.int .u32 (X k : Int)) := (HB.out.cell (p := ⟨b1, o1 + k, none⟩) hsb).trans q1
      have hpp := HP1.out (by omega)
      subst hpp
      clear q1 hsb
      obtain ⟨r, hr, hr2⟩ : ∃ r, r = X k % 1000 ∧ r < 1000 := ⟨_, rfl, Nat.mod_lt _ (by decide)⟩
      have er : ((X k : Nat) : Int).tmod 1000 = (r : Int) := by rw [Int.tmod_eq_emod_of_nonneg (Int.natCast_nonneg _), hr]; simp
      have er2 : ((X k : Nat) : Int) % 1000 = (r : Int) := by rw [hr]; simp
      obtain ⟨n, hn⟩ : ∃ n, n = c + r := ⟨_, rfl⟩
      have hn2 : n < 1000000 := by have := HCK.out; have := HL1.out; omega
      have en : IntKind.u32.wrap ((c : Int) + (r : Int)) = (n : Int) := by rw [u32w]; omega
      have HNK : Hid (n ≤ 1000 * (k + 1) ∧ n < 4294967296 ∧ c ≤ n ∧ (n = c ↔ r = 0)) := Lib.hid (by have := HCK.out; omega)
      clear hr hr2 hn hn2
      have HW := Lib.hid (words_in HF.out)
      go_wp2_with fail
      refine HW.out.mono ?_
      rintro e w2 ⟨rfl, hC2⟩
      have HF2 := Lib.hid (HF.out.keep hC2 (by simp))
      have HB2 : Hid (Below w.heap.size w w2) := Lib.hid (chg_below HB.out hC2 (by simp) HB.out.size)
      clear hC2 HW s1
      have al := wordsC_all S.f
      have sz : (wordsC S.f).toArray.size = 32 := by simp [wordsC]
      have sz2 := wordsC_len S.f
      go_upto_region 12 with (fail)
      obtain ⟨tb, htbe⟩ : ∃ tb, tb = w2.heap.size := ⟨_, rfl⟩
      obtain ⟨W3, hW3⟩ : ∃ W3, W3 = w2.alloc (.cells (wordsC S.f).toArray 32) := ⟨_, rfl⟩
      have hrow : W3.row? tb = some (wordsC S.f).toArray := by rw [hW3, htbe]; exact row_alloc_at _ _ _ _ rfl
      have htb : tb < W3.heap.size := row_lt hrow
      have hA : Chg [] w2 W3 := by rw [hW3]; exact (Chg.refl _ _).alloc _
      have HF3 := Lib.hid (HF2.out.keep hA (by simp))
      have HB3 : Hid (Below w.heap.size w W3) := Lib.hid (chg_below HB2.out hA (by simp) HB2.out.size)
      have hne : tb ≠ b := by have := HF2.out.lt; omega
      rw [← hW3, ← htbe]
      obtain ⟨T, hT⟩ : ∃ T, T = raiseT S n := ⟨_, rfl⟩
      have hr3 := raise_in (HF3.out.keep (E := []) (Chg.refl _ _).drew (by simp)) HS.out n HNK.out.2.1
      have hl3 := raise_live HS.out HL.out HNK.out.2.1
      rw [hl3.1, ← hT] at hr3
      have HR := Lib.hid hr3
      have HT : Hid T.Ok := Lib.hid (by rw [hT]; exact raiseT_ok HS.out n)
      have HTL : Hid (Live T) := Lib.hid (by rw [hT]; exact HL.out.raiseT n)
      have HCt : Hid (counter T.f = n) := Lib.hid (by rw [hT, hl3.2, HK.out]; have := HNK.out.2.2.1; omega)
      have HTS : Hid (n = c → T = S) := Lib.hid fun h => by rw [hT]; unfold raiseT; rw [if_pos (by rw [HK.out, h]; exact Nat.le_refl _)]
      clear hW3 htbe hA hr3 hl3 hT
      by_cases hnc : n = c
      · have hTS := (HTS.out hnc).symm
        subst hTS
        subst hnc
        refine wp_region_C (fun w' => w'.row? tb = some (wordsC S.f).toArray) [(0, 0), (1, 0), (2, 2), (3, 0), (4, 0), (5, 0), (7, 0), (6, 2), (8, 0), (9, 0), (10, 0), (11, 0), (12, 0), (13, 0), (14, 0), (15, 0), (17, 1), (16, 2), (18, 0), (19, 0), (20, 0)] rfl (by kernel_rfl) ?hSA ?hTA
        case hSA => exact hrow
        refine wpT_pureD (v := ?_) (some 27) rfl rfl (by rfl) (fun w' => ?_) ?_
        rotate_left
        · (go_simp; try with_reducible rfl)
        try simp only [Act.put, List.setIfInBounds_toArray, List.set_cons_zero, List.set_cons_succ]
        refine wpT_pureD (v := ?_) (some 28) rfl rfl (by rfl) (fun w' => ?_) ?_
        rotate_left
        · (go_simp; try with_reducible rfl)
        try simp only [Act.put, List.setIfInBounds_toArray, List.set_cons_zero, List.set_cons_succ]
        refine wpT_eff rfl (by rfl) (fun K hK => ?_)
        go_wp2_with fail
        refine HR.out.mono ?_
        rintro e w4 ⟨rfl, hF4, hC4⟩
        have q4 : w4.row? tb = some (wordsC S.f).toArray := (hC4.row (by simpa using htb) (by simp; exact hne)).trans hrow
        have HF4 := Lib.hid hF4
        have HB4 : Hid (Below w.heap.size w w4) := Lib.hid (chg_below HB3.out.drew hC4 (by simp; exact HN.out) (by have := HB3.out.size; simpa using this))
        clear hF4 hC4
        go_wp2_with fail
        refine hK _ _ q4 ?_
        clear hK K
        try simp only [Act.put, List.setIfInBounds_toArray, List.set_cons_zero, List.set_cons_succ]
        refine wpT_pureD (v := ?_) (some 30) rfl rfl (by rfl) (fun w' => ?_) ?_
        rotate_left
        · (go_simp; try with_reducible rfl)
        try simp only [Act.put, List.setIfInBounds_toArray, List.set_cons_zero, List.set_cons_succ]
        refine wpT_pureD (v := ?_) (some 31) rfl rfl (by rfl) (fun w' => ?_) ?_
        rotate_left
        · (go_simp; try with_reducible rfl)
        try simp only [Act.put, List.setIfInBounds_toArray, List.set_cons_zero, List.set_cons_succ]
        refine wpT_pureD (v := ?_) (some 32) rfl rfl (by rfl) (fun w' => ?_) ?_
        rotate_left
        · (go_simp; try with_reducible rfl)
        try simp only [Act.put, List.setIfInBounds_toArray, List.set_cons_zero, List.set_cons_succ]
        refine wpT_pureD (v := ?_) (some 34) rfl rfl (by rfl) (fun w' => ?_) ?_
        rotate_left
        · (go_simp; try with_reducible rfl)
        try simp only [Act.put, List.setIfInBounds_toArray, List.set_cons_zero, List.set_cons_succ]
        refine wpT_eff rfl (by rfl) (fun K hK => ?_)
        have HK4 : Hid (Calls Try.prog 15 #[.pointer (some ⟨b, 0, none⟩)] w4 fun e w' => e = .returned (.int .u32 (n : Int)) ∧ Chg [] w4 w') := Lib.hid (by have h := counter_in HF4.out HT.out; rw [HCt.out] at h; exact h)
        go_wp2_with fail
        refine HK4.out.mono ?_
        rintro e w5 ⟨rfl, hC5⟩
        have q5 : w5.row? tb = some (wordsC S.f).toArray := (hC5.row (row_lt q4) (by simp)).trans q4
        have HF5 := Lib.hid (HF4.out.keep hC5 (by simp))
        have HB5 : Hid (Below w.heap.size w w5) := Lib.hid (chg_below HB4.out hC5 (by simp) HB4.out.size)
        clear hC5 HK4
        go_wp2_with fail
        refine hK _ _ q5 ?_
        clear hK K
        try simp only [Act.put, List.setIfInBounds_toArray, List.set_cons_zero, List.set_cons_succ]
        refine wpT_pureD (v := ?_) (some 35) rfl rfl (by rfl) (fun w' => ?_) ?_
        rotate_left
        · (go_simp; try with_reducible rfl)
        try simp only [Act.put, List.setIfInBounds_toArray, List.set_cons_zero, List.set_cons_succ]
        refine wpT_pureD (v := ?_) (some 36) rfl rfl (by rfl) (fun w' => ?_) ?_
        rotate_left
        · (go_simp; try with_reducible rfl)
        try simp only [Act.put, List.setIfInBounds_toArray, List.set_cons_zero, List.set_cons_succ]
        refine wpT_pureD (v := ?_) (some 37) rfl rfl (by rfl) (fun w' => ?_) ?_
        rotate_left
        · (go_simp; try with_reducible rfl)
        try simp only [Act.put, List.setIfInBounds_toArray, List.set_cons_zero, List.set_cons_succ]
        refine wpT_pureD (v := ?_) (some 38) rfl rfl (by rfl) (fun w' => ?_) ?_
        rotate_left
        · (go_simp; try with_reducible rfl)
        try simp only [Act.put, List.setIfInBounds_toArray, List.set_cons_zero, List.set_cons_succ]
        refine wpT_pureD (v := ?_) (some 39) rfl rfl (by rfl) (fun w' => ?_) ?_
        rotate_left
        · (go_simp; try with_reducible rfl)
        try simp only [Act.put, List.setIfInBounds_toArray, List.set_cons_zero, List.set_cons_succ]
        refine wpT_pureD (v := ?_) (some 40) rfl rfl (by rfl) (fun w' => ?_) ?_
        rotate_left
        · (go_simp; try with_reducible rfl)
        try simp only [Act.put, List.setIfInBounds_toArray, List.set_cons_zero, List.set_cons_succ]
        refine wpT_pureD (v := ?_) (some 41) rfl rfl (by rfl) (fun w' => ?_) ?_
        rotate_left
        · (go_simp; try with_reducible rfl)
        try simp only [Act.put, List.setIfInBounds_toArray, List.set_cons_zero, List.set_cons_succ]
        refine wpT_pureD (v := ?_) (some 42) rfl rfl (by rfl) (fun w' => ?_) ?_
        rotate_left
        · (go_simp; try with_reducible rfl)
        try simp only [Act.put, List.setIfInBounds_toArray, List.set_cons_zero, List.set_cons_succ]
        refine wpT_readD (v := .agg (wordsC S.f).toArray) (some 44) rfl rfl (by rfl) (fun w' hw => ?_) ?_
        · refine (ld32 _ _ _ _ _ _ _ _).trans ?_
          obtain q0 := hw
          go_simp
        try simp only [Act.put, List.setIfInBounds_toArray, List.set_cons_zero, List.set_cons_succ]
        refine wpT_eff rfl (by rfl) (fun K hK => ?_)
        go_wp2_with fail
        refine (words_in HF5.out).mono ?_
        rintro e w6 ⟨rfl, hC6⟩
        have q6 : w6.row? tb = some (wordsC S.f).toArray := (hC6.row (row_lt q5) (by simp)).trans q5
        have HF6 := Lib.hid (HF5.out.keep hC6 (by simp))
        have HB6 : Hid (Below w.heap.size w w6) := Lib.hid (chg_below HB5.out hC6 (by simp) HB5.out.size)
        clear hC6
        go_wp2_with fail
        refine hK _ _ q6 ?_
        clear hK K
        try simp only [Act.put, List.setIfInBounds_toArray, List.set_cons_zero, List.set_cons_succ]
        refine wpT_pureD (v := ?_) (some 45) rfl rfl (by rfl) (fun w' => ?_) ?_
        rotate_left
        · (go_simp; try with_reducible rfl)
        try simp only [Act.put, List.setIfInBounds_toArray, List.set_cons_zero, List.set_cons_succ]
        refine wpT_pureD (v := ?_) (some 46) rfl rfl (by rfl) (fun w' => ?_) ?_
        rotate_left
        · (go_simp; try with_reducible rfl)
        try simp only [Act.put, List.setIfInBounds_toArray, List.set_cons_zero, List.set_cons_succ]
        refine wpT_pureD (v := ?_) (some 47) rfl rfl (by rfl) (fun w' => ?_) ?_
        rotate_left
        · (go_simp; try with_reducible rfl)
        try simp only [Act.put, List.setIfInBounds_toArray, List.set_cons_zero, List.set_cons_succ]
        go_wp2_with fail
        refine wpT_end ?_
        go_wp2
        have hwr := wrap1 k (by have := HL1.out; omega)
        exact ⟨⟨k + 1, n, S, Nat.succ_le_of_lt hlt, by first | rfl | rw [hwr], rfl, HNK.out.1, HT.out, HTL.out, HCt.out, HF6.out, HB6.out⟩, by first | (rw [hwr]; simp only [intOf, Int.toNat_natCast]; exact Nat.sub_lt_sub_left hlt (Nat.lt_succ_self k)) | (simp only [intOf]; omega)⟩
      · have f1 : ((n : Int) == (c : Int)) = false := by simp; omega
        have f2 : ((n : Int) = (c : Int)) = False := by simp; omega
        have f3 : (n = c) = False := by simp; omega
        clear hnc
        refine wp_region_C (fun w' => w'.row? tb = some (wordsC S.f).toArray) [(0, 0), (1, 0), (2, 2), (3, 0), (4, 0), (5, 0), (7, 0), (6, 2), (8, 0), (9, 0), (10, 0), (11, 0), (12, 0), (13, 0), (14, 0), (15, 0), (17, 1), (16, 2), (18, 0), (19, 0), (20, 0)] rfl (by kernel_rfl) ?hSB ?hTB
        case hSB => exact hrow
        refine wpT_pureD (v := ?_) (some 27) rfl rfl (by rfl) (fun w' => ?_) ?_
        rotate_left
        · (go_simp; try with_reducible rfl)
        try simp only [Act.put, List.setIfInBounds_toArray, List.set_cons_zero, List.set_cons_succ]
        refine wpT_pureD (v := ?_) (some 28) rfl rfl (by rfl) (fun w' => ?_) ?_
        rotate_left
        · (go_simp; try with_reducible rfl)
        try simp only [Act.put, List.setIfInBounds_toArray, List.set_cons_zero, List.set_cons_succ]
        refine wpT_eff rfl (by rfl) (fun K hK => ?_)
        go_wp2_with fail
        refine HR.out.mono ?_
        rintro e w4 ⟨rfl, hF4, hC4⟩
        have q4 : w4.row? tb = some (wordsC S.f).toArray := (hC4.row (by simpa using htb) (by simp; exact hne)).trans hrow
        have HF4 := Lib.hid hF4
        have HB4 : Hid (Below w.heap.size w w4) := Lib.hid (chg_below HB3.out.drew hC4 (by simp; exact HN.out) (by have := HB3.out.size; simpa using this))
        clear hF4 hC4
        go_wp2_with fail
        refine hK _ _ q4 ?_
        clear hK K
        try simp only [Act.put, List.setIfInBounds_toArray, List.set_cons_zero, List.set_cons_succ]
        refine wpT_pureD (v := ?_) (some 30) rfl rfl (by rfl) (fun w' => ?_) ?_
        rotate_left
        · (go_simp; try with_reducible rfl)
        try simp only [Act.put, List.setIfInBounds_toArray, List.set_cons_zero, List.set_cons_succ]
        refine wpT_pureD (v := ?_) (some 31) rfl rfl (by rfl) (fun w' => ?_) ?_
        rotate_left
        · (go_simp; try with_reducible rfl)
        try simp only [Act.put, List.setIfInBounds_toArray, List.set_cons_zero, List.set_cons_succ]
        refine wpT_pureD (v := ?_) (some 32) rfl rfl (by rfl) (fun w' => ?_) ?_
        rotate_left
        · (go_simp; try with_reducible rfl)
        try simp only [Act.put, List.setIfInBounds_toArray, List.set_cons_zero, List.set_cons_succ]
        refine wpT_pureD (v := ?_) (some 34) rfl rfl (by rfl) (fun w' => ?_) ?_
        rotate_left
        · (go_simp; try with_reducible rfl)
        try simp only [Act.put, List.setIfInBounds_toArray, List.set_cons_zero, List.set_cons_succ]
        refine wpT_eff rfl (by rfl) (fun K hK => ?_)
        have HK4 : Hid (Calls Try.prog 15 #[.pointer (some ⟨b, 0, none⟩)] w4 fun e w' => e = .returned (.int .u32 (n : Int)) ∧ Chg [] w4 w') := Lib.hid (by have h := counter_in HF4.out HT.out; rw [HCt.out] at h; exact h)
        go_wp2_with fail
        refine HK4.out.mono ?_
        rintro e w5 ⟨rfl, hC5⟩
        have q5 : w5.row? tb = some (wordsC S.f).toArray := (hC5.row (row_lt q4) (by simp)).trans q4
        have HF5 := Lib.hid (HF4.out.keep hC5 (by simp))
        have HB5 : Hid (Below w.heap.size w w5) := Lib.hid (chg_below HB4.out hC5 (by simp) HB4.out.size)
        clear hC5 HK4
        go_wp2_with fail
        refine hK _ _ q5 ?_
        clear hK K
        try simp only [Act.put, List.setIfInBounds_toArray, List.set_cons_zero, List.set_cons_succ]
        refine wpT_pureD (v := ?_) (some 35) rfl rfl (by rfl) (fun w' => ?_) ?_
        rotate_left
        · (go_simp; try with_reducible rfl)
        try simp only [Act.put, List.setIfInBounds_toArray, List.set_cons_zero, List.set_cons_succ]
        refine wpT_pureD (v := ?_) (some 36) rfl rfl (by rfl) (fun w' => ?_) ?_
        rotate_left
        · (go_simp; try with_reducible rfl)
        try simp only [Act.put, List.setIfInBounds_toArray, List.set_cons_zero, List.set_cons_succ]
        refine wpT_pureD (v := ?_) (some 37) rfl rfl (by rfl) (fun w' => ?_) ?_
        rotate_left
        · (go_simp; try with_reducible rfl)
        try simp only [Act.put, List.setIfInBounds_toArray, List.set_cons_zero, List.set_cons_succ]
        refine wpT_pureD (v := ?_) (some 38) rfl rfl (by rfl) (fun w' => ?_) ?_
        rotate_left
        · (go_simp; try with_reducible rfl)
        try simp only [Act.put, List.setIfInBounds_toArray, List.set_cons_zero, List.set_cons_succ]
        refine wpT_pureD (v := ?_) (some 39) rfl rfl (by rfl) (fun w' => ?_) ?_
        rotate_left
        · (go_simp; try with_reducible rfl)
        try simp only [Act.put, List.setIfInBounds_toArray, List.set_cons_zero, List.set_cons_succ]
        refine wpT_pureD (v := ?_) (some 40) rfl rfl (by rfl) (fun w' => ?_) ?_
        rotate_left
        · (go_simp; try with_reducible rfl)
        try simp only [Act.put, List.setIfInBounds_toArray, List.set_cons_zero, List.set_cons_succ]
        refine wpT_pureD (v := ?_) (some 41) rfl rfl (by rfl) (fun w' => ?_) ?_
        rotate_left
        · (go_simp; try with_reducible rfl)
        try simp only [Act.put, List.setIfInBounds_toArray, List.set_cons_zero, List.set_cons_succ]
        refine wpT_skipD (some 42) rfl rfl (by rfl) ?_
        try simp only [Act.put, List.setIfInBounds_toArray, List.set_cons_zero, List.set_cons_succ]
        refine wpT_skipD (some 44) rfl rfl (by rfl) ?_
        try simp only [Act.put, List.setIfInBounds_toArray, List.set_cons_zero, List.set_cons_succ]
        refine wpT_skipD (some 43) rfl rfl (by rfl) ?_
        try simp only [Act.put, List.setIfInBounds_toArray, List.set_cons_zero, List.set_cons_succ]
        refine wpT_skipD (some 45) rfl rfl (by rfl) ?_
        try simp only [Act.put, List.setIfInBounds_toArray, List.set_cons_zero, List.set_cons_succ]
        refine wpT_pureD (v := ?_) (some 46) rfl rfl (by rfl) (fun w' => ?_) ?_
        rotate_left
        · (go_simp; try with_reducible rfl)
        try simp only [Act.put, List.setIfInBounds_toArray, List.set_cons_zero, List.set_cons_succ]
        refine wpT_pureD (v := ?_) (some 47) rfl rfl (by rfl) (fun w' => ?_) ?_
        rotate_left
        · (go_simp; try with_reducible rfl)
        try simp only [Act.put, List.setIfInBounds_toArray, List.set_cons_zero, List.set_cons_succ]
        go_wp2_with fail
        refine wpT_end ?_
        go_wp2
        have hwr := wrap1 k (by have := HL1.out; omega)
        exact ⟨⟨k + 1, n, T, Nat.succ_le_of_lt hlt, by first | rfl | rw [hwr], rfl, HNK.out.1, HT.out, HTL.out, HCt.out, HF5.out, HB5.out⟩, by first | (rw [hwr]; simp only [intOf, Int.toNat_natCast]; exact Nat.sub_lt_sub_left hlt (Nat.lt_succ_self k)) | (simp only [intOf]; omega)⟩
    · obtain rfl : k = n1 := by omega
      have dk : decide ((k : Int) < (k : Int)) = false := by simp
      obtain ⟨h, hh⟩ : ∃ h, h = c / 2 := ⟨_, rfl⟩
      have hc4 : c < 4294967296 := by rw [← HK.out]; exact cnt_lt HS.out.f 10
      have e1 : (c : Int).tdiv 2 = (h : Int) := by rw [Int.tdiv_eq_ediv_of_nonneg (Int.natCast_nonneg _), hh]; simp
      have e2 : (c : Int) / 2 = (h : Int) := by rw [hh]; simp
      have e3 : (h : Int) % 4294967296 = (h : Int) := by omega
      have hR := raise_in HF.out HS.out h (by omega)
      rw [(raise_live HS.out HL.out (n := h) (by omega)).1] at hR
      have hTS : raiseT S h = S := by unfold raiseT; rw [if_pos (by rw [HK.out]; omega)]
      rw [hTS] at hR
      have HR := Lib.hid hR
      clear hR hTS hh hc4
      go_wp2_with fail
      refine HR.out.mono ?_
      rintro e w2 ⟨rfl, hF2, hC2⟩
      have HF2 := Lib.hid hF2
      have HB2 : Hid (Below w.heap.size w w2) := Lib.hid (chg_below HB.out hC2 (by simp; exact HN.out) HB.out.size)
      have hK2 := counter_in hF2 HS.out
      rw [HK.out] at hK2
      have HK2 := Lib.hid hK2
      clear hF2 hC2 hK2 HR
      go_wp2_with fail
      refine HK2.out.mono ?_
      rintro e w3 ⟨rfl, hC3⟩
      have HF3 := Lib.hid (HF2.out.keep hC3 (by simp))
      have HB3 : Hid (Below w.heap.size w w3) := Lib.hid (chg_below HB2.out hC3 (by simp) HB2.out.size)
      clear hC3 HK2
      go_wp2_with fail
      refine (again2 HF3.out).mono ?_
      rintro e w4 ⟨rfl, hF4, hC4⟩
      have hK4 := counter_in hF4 (again_ok HS.out)
      rw [again_f, HK.out] at hK4
      have HK4 := Lib.hid hK4
      have HB4 : Hid (Below w.heap.size w w4) := Lib.hid (chg_below HB3.out hC4 (by simp) HB3.out.size)
      clear hF4 hC4 hK4
      go_wp2_with fail
      refine HK4.out.mono ?_
      rintro e w5 ⟨rfl, hC5⟩
      go_wp2
      go_ret
      exact ⟨by simp, chg_below HB4.out hC5 (by simp) HB4.out.size⟩
theorem plain_all (p1 : Option Addr) (n1 k1 b1 o1 : Nat) (X : Nat → Nat) (w : World) (hp1 : 0 < n1 → p1 = some ⟨b1, o1, none⟩)
    (hc1 : ∀ k, k < n1 → w.cell? ⟨b1, o1 + k, none⟩ = some (.int .u32 (X k : Int))) :
    Calls Try.prog 4 #[.slice p1 n1 k1] w fun e w' => e = .returned (.bool true) ∧ Below w.heap.size w w' := by
  by_cases h : n1 ≤ 300
  · exact plain_walk p1 n1 k1 b1 o1 X w h hp1 hc1
  · clear hp1 hc1
    have d1 : decide ((n1 : Int) > 300) = true := by simp; omega
    have d1' : decide (300 < (n1 : Int)) = true := by simp; omega
    go_enter Try.func4, Try.ntmps4
    go_wp2_with fail
    refine (fit_ok w).mono ?_
    rintro e w0 ⟨rfl, hB0⟩
    go_wp2
    go_ret
    exact ⟨rfl, hB0⟩
end Go.Proofs.L
