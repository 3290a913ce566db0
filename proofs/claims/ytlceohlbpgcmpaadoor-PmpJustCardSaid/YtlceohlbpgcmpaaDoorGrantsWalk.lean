/- Proved here: lemmas and contracts (GrantsWalk) for the laws of this seat, for all values of the stated types; no further condition. -/
import Derived.Test.YtlceohlbpgcmpaaDoorApartAll
import Derived.Test.YtlceohlbpgcmpaaDoorPlansWalk
open Go Go.RowKit Go.Lib
namespace Go.Proofs.L
attribute [local irreducible] wpT
theorem i64_and3 (n : Int) : bits .and .i64 n 3 = n % 4 := by
  have h127 : (BitVec.ofInt 64 3).toNat = 2 ^ 2 - 1 := by decide
  have key : (BitVec.ofInt 64 n &&& BitVec.ofInt 64 3).toNat = (n % ((2 ^ 64 : Nat) : Int)).toNat % 2 ^ 2 := by
    rw [BitVec.toNat_and, BitVec.toNat_ofInt, h127, Nat.and_two_pow_sub_one_eq_mod]
  show IntKind.i64.wrap ((BitVec.ofInt 64 n &&& BitVec.ofInt 64 3).toNat : Nat) = n % 4
  rw [key, IntKind.wrap_i64]
  omega
set_option maxRecDepth 100000 in
set_option maxHeartbeats 1600000 in
theorem grants_walk {w : World} {p : Option Addr} {b o n c : Nat} {G : List Gr} (hG : GrsAt w b o G) (hn : G.length = n) (hp : 0 < n → p = some ⟨b, o, none⟩) (hcap : n ≤ c) (hL : LaidOk w) (x : Nat) (hx : x < 4294967296) (h0 h1 : Int) :
    Calls Tryd.prog 4 #[.slice p n c, .int .u32 (x : Int), .agg #[.int .i64 h0, .int .i64 h1]] w fun e w' => e = .returned (.bool true) ∧ Chg [] w w' := by
  obtain ⟨B, hB⟩ : ∃ B, B = w.heap.size := ⟨_, rfl⟩
  obtain ⟨V, hV⟩ : ∃ V, V = w.alloc (.cells #[.int .i64 h0, .int .i64 h1] 34) := ⟨_, rfl⟩
  have hcV : Chg [] w V := by rw [hV]; exact (Chg.refl _ _).alloc _
  have rb : V.row? B = some #[.int .i64 h0, .int .i64 h1] := by rw [hV]; exact row_alloc_at _ _ _ _ hB
  obtain ⟨A, hA⟩ : ∃ a : Nat, (a : Int) = h0 % 4 := ⟨(h0 % 4).toNat, by omega⟩
  have HF := Lib.hid (fit_ok V (hL.keep hcV))
  have HGV := Lib.hid (hG.keep hcV)
  have HN := Lib.hid hn
  have HP := Lib.hid hp
  have HL := Lib.hid (hL.keep hcV)
  have HCV := Lib.hid hcV
  have HRB := Lib.hid rb
  have HB := Lib.hid hB
  have HV := Lib.hid hV
  have HX := Lib.hid hx
  have HCAP := Lib.hid hcap
  clear hG hn hp hL hcV rb hB hV hx hcap
  go_enter Tryd.func4, Tryd.ntmps4
  go_upto_region 1 with (fail)
  rw [← HB.out, ← HV.out]
  clear HB HV
  go_wp2_with fail
  refine HF.out.mono ?_
  rintro e w1 ⟨rfl, hc1⟩
  have HC1 := Lib.hid (HCV.out.trans hc1)
  have HRB1 : Hid (w1.row? B = some #[.int .i64 h0, .int .i64 h1]) := Lib.hid (by rw [hc1.row (row_lt HRB.out) (by simp)]; exact HRB.out)
  have HG1 := Lib.hid (HGV.out.keep hc1)
  have HL1 := Lib.hid (HL.out.keep hc1)
  clear hc1 HRB HGV HL HF
  by_cases h40 : 40 < n
  · have g1 : decide ((40 : Int) < (n : Int)) = true := by rw [decide_eq_true_eq]; omega
    go_wp2
    go_ret
    exact ⟨rfl, HC1.out⟩
  have g1 : decide ((40 : Int) < (n : Int)) = false := by rw [decide_eq_false_iff_not]; omega
  have HN6 : Hid (n ≤ 40) := Lib.hid (by omega)
  have HAP := Lib.hid (apart_any (c := c) HG1.out HN.out HP.out (by omega) HCAP.out)
  clear h40
  go_wp2_with fail
  refine HAP.out.mono ?_
  rintro e w2 ⟨r, rfl, hc2, hgood⟩
  have HC2 := Lib.hid (HC1.out.trans hc2)
  cases r with
  | false =>
    clear hc2 hgood
    go_wp2
    go_ret
    exact ⟨rfl, HC2.out⟩
  | true =>
  have HGD := Lib.hid (hgood rfl)
  have HRB2 : Hid (w2.row? B = some #[.int .i64 h0, .int .i64 h1]) := Lib.hid (by rw [hc2.row (row_lt HRB1.out) (by simp)]; exact HRB1.out)
  have HG2 := Lib.hid (HG1.out.keep hc2)
  have HL2 := Lib.hid (HL1.out.keep hc2)
  clear hc2 hgood HRB1 HG1 HL1 HAP
  have HPL := Lib.hid (plan_any (c := c) HG2.out HN.out HP.out (by have := HN6.out; omega))
  go_wp2_with fail
  refine HPL.out.mono ?_
  rintro e w3 hq
  obtain ⟨p2, b2, c2, rfl, hc3, hp2, hE2⟩ := hq.ans
  have HC3 := Lib.hid (HC2.out.trans hc3)
  have HRB3 : Hid (w3.row? B = some #[.int .i64 h0, .int .i64 h1]) := Lib.hid (by rw [hc3.row (row_lt HRB2.out) (by simp)]; exact HRB2.out)
  have HG3 := Lib.hid (HG2.out.keep hc3)
  have HL3 := Lib.hid (HL2.out.keep hc3)
  have HP2 := Lib.hid hp2
  have HE2 := Lib.hid hE2
  have HLEN := Lib.hid (ans_len G)
  have herr : errN G = 0 ∨ errN G = 15 := by
    unfold errN
    rw [if_neg (by rw [HGD.out.1]; simp)]
    split
    · exact .inr rfl
    · exact .inl rfl
  have hans : errN G = 0 → ansN G = outN G := fun h => by unfold ansN; rw [if_pos h]
  have HANS := Lib.hid hans
  clear hq hc3 hp2 hE2 HRB2 HG2 HL2 HPL hans
  obtain ⟨er, her⟩ : ∃ r, r = errN G := ⟨_, rfl⟩
  rw [← her] at HANS herr ⊢
  clear her
  obtain ⟨A', hA'⟩ : ∃ A, A = ansN G := ⟨_, rfl⟩
  rw [← hA'] at HANS HP2 HE2 HLEN ⊢
  clear hA'
  rcases herr with rfl | rfl
  rotate_left
  · go_wp2
    go_ret
    exact ⟨rfl, HC3.out⟩
  have hA2 : A' = outN G := HANS.out rfl
  subst hA2
  obtain ⟨m0, hm0⟩ : ∃ m, m = (outN G).length := ⟨_, rfl⟩
  rw [← hm0] at HP2 HLEN ⊢
  have hm1 : 0 < m0 := by rw [hm0]; unfold outN; simp
  have hp2 := HP2.out hm1
  subst hp2
  have HM0 := Lib.hid hm0
  clear hm0 hm1 HP2 HANS
  have a3 : bits .and .i64 h0 3 = (A : Int) := by rw [i64_and3]; exact hA.symm
  have hA4 : A < 4 := by omega
  have t1 := Int.tmod_lt_of_pos h1 (show (0:Int) < 3 by decide)
  have t2 := Int.lt_tmod_of_pos h1 (show (0:Int) < 3 by decide)
  have t3 : IntKind.i64.wrap (h1.tmod 3 + 3) = h1.tmod 3 + 3 := by rw [IntKind.wrap_i64]; omega
  have t4 := Int.tmod_nonneg 3 (show 0 ≤ h1.tmod 3 + 3 by omega)
  have t5 := Int.tmod_lt_of_pos (h1.tmod 3 + 3) (show (0:Int) < 3 by decide)
  obtain ⟨q, hq⟩ : ∃ q : Nat, (IntKind.i64.wrap (h1.tmod 3 + 3)).tmod 3 = (q : Int) := ⟨((h1.tmod 3 + 3).tmod 3).toNat, by rw [t3]; omega⟩
  have hq3 : q < 3 := by rw [t3] at hq; omega
  clear t1 t2 t3 t4 t5
  obtain ⟨m, hm⟩ : ∃ m, m = 2 ^ A := ⟨_, rfl⟩
  obtain ⟨r, hr⟩ : ∃ m, m = 2 ^ q := ⟨_, rfl⟩
  have HM8 : Hid (1 ≤ m ∧ m ≤ 8) := Lib.hid (by
    rw [hm]
    match A, hA4 with
    | 0, _ => exact ⟨by decide, by decide⟩
    | 1, _ => exact ⟨by decide, by decide⟩
    | 2, _ => exact ⟨by decide, by decide⟩
    | 3, _ => exact ⟨by decide, by decide⟩)
  have s1 : IntKind.i64.wrap (2 ^ min A 64) = (m : Int) := by
    rw [hm]
    match A, hA4 with
    | 0, _ => rfl
    | 1, _ => rfl
    | 2, _ => rfl
    | 3, _ => rfl
  have s2 : IntKind.i64.wrap (2 ^ min q 64) = (r : Int) := by
    rw [hr]
    match q, hq3 with
    | 0, _ => rfl
    | 1, _ => rfl
    | 2, _ => rfl
  have HR := Lib.hid hr
  have HQ3 := Lib.hid hq3
  have HA4 := Lib.hid hA4
  have c0 : w3.cell? ⟨B, 0, none⟩ = some (.int .i64 h0) := by rw [row_cell HRB3.out]; rfl
  have c1 : w3.cell? ⟨B, 1, none⟩ = some (.int .i64 h1) := by rw [row_cell HRB3.out]; rfl
  clear hA hA4 hq3 hm hr
  go_upto_region 8 with (fail)
  refine wp_region_C (fun w' => w'.cell? ⟨B, 0, none⟩ = some (.int .i64 h0) ∧ w'.cell? ⟨B, 1, none⟩ = some (.int .i64 h1)) [(0, 0), (1, 1), (2, 0), (3, 0), (4, 0), (5, 1), (6, 0), (7, 0), (8, 0), (9, 0), (10, 0), (11, 0)] rfl (by kernel_rfl) ?hSA ?hTA
  case hSA => exact ⟨c0, c1⟩
  refine wpT_pureD (v := ?_) (some 33) rfl rfl (by rfl) (fun w' => ?_) ?_
  rotate_left
  · (go_simp; try with_reducible rfl)
  try simp only [Act.put, List.setIfInBounds_toArray, List.set_cons_zero, List.set_cons_succ]
  refine wpT_readD (v := ?_) (some 34) rfl rfl (by rfl) (fun w' hw => ?_) ?_
  rotate_left
  · (obtain ⟨q0, q1⟩ := hw; go_simp; try with_reducible rfl)
  try simp only [Act.put, List.setIfInBounds_toArray, List.set_cons_zero, List.set_cons_succ]
  refine wpT_pureD (v := ?_) (some 35) rfl rfl (by rfl) (fun w' => ?_) ?_
  rotate_left
  · (go_simp; try with_reducible rfl)
  try simp only [Act.put, List.setIfInBounds_toArray, List.set_cons_zero, List.set_cons_succ]
  refine wpT_pureD (v := ?_) (some 36) rfl rfl (by rfl) (fun w' => ?_) ?_
  rotate_left
  · (go_simp; try with_reducible rfl)
  try simp only [Act.put, List.setIfInBounds_toArray, List.set_cons_zero, List.set_cons_succ]
  refine wpT_pureD (v := ?_) (some 37) rfl rfl (by rfl) (fun w' => ?_) ?_
  rotate_left
  · (go_simp; try with_reducible rfl)
  try simp only [Act.put, List.setIfInBounds_toArray, List.set_cons_zero, List.set_cons_succ]
  refine wpT_readD (v := ?_) (some 38) rfl rfl (by rfl) (fun w' hw => ?_) ?_
  rotate_left
  · (obtain ⟨q0, q1⟩ := hw; go_simp; try with_reducible rfl)
  try simp only [Act.put, List.setIfInBounds_toArray, List.set_cons_zero, List.set_cons_succ]
  refine wpT_pureD (v := ?_) (some 39) rfl rfl (by rfl) (fun w' => ?_) ?_
  rotate_left
  · (go_simp; try with_reducible rfl)
  try simp only [Act.put, List.setIfInBounds_toArray, List.set_cons_zero, List.set_cons_succ]
  refine wpT_pureD (v := ?_) (some 40) rfl rfl (by rfl) (fun w' => ?_) ?_
  rotate_left
  · (go_simp; try with_reducible rfl)
  try simp only [Act.put, List.setIfInBounds_toArray, List.set_cons_zero, List.set_cons_succ]
  refine wpT_pureD (v := ?_) (some 41) rfl rfl (by rfl) (fun w' => ?_) ?_
  rotate_left
  · (go_simp; try with_reducible rfl)
  try simp only [Act.put, List.setIfInBounds_toArray, List.set_cons_zero, List.set_cons_succ]
  refine wpT_pureD (v := ?_) (some 42) rfl rfl (by rfl) (fun w' => ?_) ?_
  rotate_left
  · (go_simp; try with_reducible rfl)
  try simp only [Act.put, List.setIfInBounds_toArray, List.set_cons_zero, List.set_cons_succ]
  refine wpT_pureD (v := ?_) (some 9) rfl rfl (by rfl) (fun w' => ?_) ?_
  rotate_left
  · (go_simp; try with_reducible rfl)
  try simp only [Act.put, List.setIfInBounds_toArray, List.set_cons_zero, List.set_cons_succ]
  refine wpT_pureD (v := ?_) (some 10) rfl rfl (by rfl) (fun w' => ?_) ?_
  rotate_left
  · (go_simp; try with_reducible rfl)
  try simp only [Act.put, List.setIfInBounds_toArray, List.set_cons_zero, List.set_cons_succ]
  refine wpT_end ?_
  clear c0 c1 a3 s1 s2 hq
  have HDR : Hid (∀ w', Chg [] w3.drew w' → Chg [] w w') := Lib.hid fun w' h => (HC3.out.drew).trans h
  have HG4 := Lib.hid (HG3.out.keep ((Chg.refl [] w3).drew))
  obtain ⟨w4, hw4⟩ : ∃ W, W = w3.drew := ⟨_, rfl⟩
  rw [← hw4] at HDR HG4 ⊢
  have HE4 : Hid (EntsAt w4 b2 0 (outN G)) := Lib.hid (by rw [hw4]; exact HE2.out.keep ((Chg.refl [] w3).drew))
  have HL4 : Hid (LaidOk w4) := Lib.hid (by rw [hw4]; exact HL3.out.keep ((Chg.refl [] w3).drew))
  clear hw4 HRB3 HG3 HL3 HE2
  go_wp2_with fail
  go_loopw [45, 11, 13] (fun i may _ wr => ∃ k : Nat, k ≤ n ∧ i = .int .i64 k ∧ may = .bool ((G.take k).any (mayG x m (r : Int))) ∧ Chg [] w4 wr) (fun i _ _ _ => n - (intOf i).toNat)
  case atStart => exact ⟨0, by omega, rfl, rfl, Chg.refl _ _⟩
  case round =>
    obtain ⟨k, hk, rfl, rfl, hch⟩ := hrel
    have HC := Lib.hid hch
    clear hch
    by_cases hk2 : k < n
    · have HK := Lib.hid hk2
      have HW : Hid (wrap64 ((k : Int) + 1) = ((k + 1 : Nat) : Int)) := Lib.hid (wrap1 k (by have := HN6.out; omega))
      obtain ⟨g, hg⟩ : ∃ g, G[k]? = some g := ⟨_, List.getElem?_eq_getElem (by have := HN.out; omega)⟩
      obtain ⟨c0, c1, c2, l0, l1⟩ := HG4.out.keep HC.out k g hg
      have HT := Lib.hid (take_succ' G k g hg)
      have hpp := HP.out (by omega)
      subst hpp
      have dk : decide ((k : Int) < (n : Int)) = true := by rw [decide_eq_true_eq]; omega
      have hkI : (k : Int) < (n : Int) := by omega
      have HWI : Hid (∀ w, Calls Tryd.prog 12 #[.int .i64 (x : Int), .int .i64 (m : Int), .int .i64 (g.start : Int), .int .i64 (g.size : Int)] w fun e w' => e = .returned (.bool (decide (g.start ≤ x) && decide (x + m ≤ g.start + g.size))) ∧ w' = w) := Lib.hid fun w => within_any x m g.start g.size (by have := HX.out; have := HM8.out; omega) (by omega) w
      obtain ⟨y, hy⟩ : ∃ y, y = (decide (g.start ≤ x) && decide (x + m ≤ g.start + g.size)) := ⟨_, rfl⟩
      have HMG : Hid (mayG x m (r : Int) g = (decide (0 < bits .and .i64 g.rights (r : Int)) && y)) := Lib.hid (by rw [hy]; rfl)
      rw [← hy] at HWI
      obtain ⟨M, hM⟩ : ∃ M, M = (G.take k).any (mayG x m (r : Int)) := ⟨_, rfl⟩
      rw [← hM]
      have HNEXT : Hid ((G.take (k + 1)).any (mayG x m (r : Int)) = (M || (decide (0 < bits .and .i64 g.rights (r : Int)) && y))) := Lib.hid (by rw [HT.out, List.any_append, hM, ← HMG.out]; simp)
      obtain ⟨st, sz, rt⟩ := g
      simp only [] at c0 c1 c2 l0 l1 HWI HNEXT
      have ws1 : wrap64 (st : Int) = (st : Int) := IntWalk.wrap64_in _ ⟨by omega, by omega⟩
      have ws2 : wrap64 (sz : Int) = (sz : Int) := IntWalk.wrap64_in _ ⟨by omega, by omega⟩
      have ws3 : wrap64 (x : Int) = (x : Int) := IntWalk.wrap64_in _ ⟨by omega, by have := HX.out; omega⟩
      obtain ⟨bt, hbt⟩ : ∃ bt, bt = bits .and .i64 rt (r : Int) := ⟨_, rfl⟩
      have ab := hbt.symm
      rw [← hbt] at HNEXT
      clear hg hy hM HMG HT hbt hk2
      cases M with
      | true =>
        rw [Bool.true_or] at HNEXT
        go_wp2
        case roundEnd => exact ⟨⟨k + 1, HK.out, by rw [HW.out], by rw [HNEXT.out], HC.out.alloc _⟩, by rw [HW.out]; simp only [intOf, Int.toNat_natCast]; have := HK.out; omega⟩
      | false =>
        rw [Bool.false_or] at HNEXT
        by_cases hb0 : 0 < bt
        · have d0 : decide (0 < bt) = true := by rw [decide_eq_true_eq]; exact hb0
          rw [d0, Bool.true_and] at HNEXT
          go_wp2_with fail
          refine (HWI.out _).mono ?_
          rintro e w' ⟨rfl, rfl⟩
          go_wp2
          case roundEnd => exact ⟨⟨k + 1, HK.out, by rw [HW.out], by rw [HNEXT.out], HC.out.alloc _⟩, by rw [HW.out]; simp only [intOf, Int.toNat_natCast]; have := HK.out; omega⟩
        · have d0 : decide (0 < bt) = false := by rw [decide_eq_false_iff_not]; exact hb0
          rw [d0, Bool.false_and] at HNEXT
          go_wp2
          case roundEnd => exact ⟨⟨k + 1, HK.out, by rw [HW.out], by rw [HNEXT.out], HC.out.alloc _⟩, by rw [HW.out]; simp only [intOf, Int.toNat_natCast]; have := HK.out; omega⟩
    · obtain rfl : k = n := by omega
      have hfull : G.take k = G := List.take_of_length_le (by have := HN.out; omega)
      have dk : decide ((k : Int) < (k : Int)) = false := by simp
      rw [hfull]
      have hz : ∀ g ∈ G, g.size < 4294967296 := fun g hg => by
        obtain ⟨i, hi, rfl⟩ := List.getElem_of_mem hg
        exact (HG4.out i _ (List.getElem?_eq_getElem hi)).l1
      have hck := check_any (c := c2) (HE4.out.keep HC.out) HM0.out.symm (by have := HLEN.out; omega) (HL4.out.keep HC.out) x m (r : Int) HX.out HM8.out.1 (by have := HM8.out; omega)
      have hlaw := plan_check G HGD.out hz x m q HM8.out.1 HX.out HQ3.out
      rw [← HR.out] at hlaw
      rw [hlaw] at hck
      have HCK := Lib.hid hck
      obtain ⟨Q, hQ⟩ : ∃ Q, Q = G.any (mayG x m (r : Int)) := ⟨_, rfl⟩
      rw [← hQ] at HCK ⊢
      clear hck hlaw hz hQ hfull
      go_wp2_with fail
      refine HCK.out.mono ?_
      rintro e w' ⟨rfl, rfl⟩
      go_wp2
      go_ret
      exact ⟨by simp, HDR.out _ HC.out⟩
end Go.Proofs.L
