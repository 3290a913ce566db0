/- Proved here: lemmas and contracts (RefRaise) for the laws of this seat, for all values of the stated types; no further condition. -/
import Derived.Test.YtfalldoimbedbaaRefWrite
open Go Go.RowKit Go.Lib
namespace Go.Proofs.L
def nw (f : Nat → Nat) : Nat → Nat
  | 0 => 0
  | k + 1 => if newAt f k then 1 else nw f k
theorem nw_five (f) : nw f 5 = newest f := by
  unfold newest
  simp only [nw]
  cases newAt f 0 <;> cases newAt f 1 <;> cases newAt f 2 <;> cases newAt f 3 <;> cases newAt f 4 <;> rfl
theorem nw_lt (f) : ∀ k, nw f k < 2
  | 0 => by unfold nw; decide
  | k + 1 => by
    have := nw_lt f k
    unfold nw; split <;> omega
theorem msub_lt (n : Nat) : 4294967295 - n < 4294967296 := by omega
theorem px1 (n : Nat) : px n 1 = 4294967295 - n := by simp [px]
theorem px2 (n : Nat) : px n 2 = 0 := by simp [px]
theorem lt_of3 {q q1 q2 : Nat} (h1 : q1 = q + 1) (h2 : q2 = q + 2) (h : q2 < 32) : q < 32 ∧ q1 < 32 := by omega
theorem putE_ok (S : FS) (q n : Nat) : decide (putE S q n = 0) = ((pS S q n 0).okB && (pS S q n 1).okB && (pS S q n 2).okB) := by
  unfold putE errW
  cases (pS S q n 0).okB <;> cases (pS S q n 1).okB <;> cases (pS S q n 2).okB <;> rfl
set_option maxRecDepth 100000 in
set_option maxHeartbeats 3200000 in
theorem rraise_in {w b S} (h : Fl w b S) (hS : S.Ok) (n : Nat) (hn : n < 4294967296) : Calls Try.prog 18 #[.pointer (some ⟨b, 0, none⟩), .int .u32 (n : Int)] w fun e w' => e = .returned (.bool (decide (raiseE S n = 0))) ∧ Fl w' b (raiseT S n) ∧ Chg [b] w w' := by
  have H := Lib.hid h
  have HS := Lib.hid hS
  have HK := Lib.hid (rcounter_in h hS)
  have HN := Lib.hid hn
  obtain ⟨m, hm⟩ : ∃ m, m = 4294967295 - n := ⟨_, rfl⟩
  have wm : IntKind.u32.wrap (4294967295 - (n : Int)) = (m : Int) := by rw [u32w]; omega
  have HM := Lib.hid hm
  clear h hS hn hm
  go_enter Try.func18, Try.ntmps18
  go_wp2_with fail
  refine HK.out.mono ?_
  rintro e w0 ⟨rfl, hC0⟩
  have HC0 := Lib.hid hC0
  have HF0 := Lib.hid (H.out.keep hC0 (by simp))
  clear HK hC0
  obtain ⟨c, hc⟩ : ∃ c, c = counter S.f := ⟨_, rfl⟩
  rw [← hc]
  have HCc := Lib.hid hc
  clear hc
  by_cases hle : n ≤ c
  · have d : decide ((n : Int) ≤ (c : Int)) = true := by simp; omega
    have hle2 : n ≤ counter S.f := by rw [← HCc.out]; exact hle
    have HLe := Lib.hid hle2
    clear hle2
    go_wp2
    go_ret
    refine ⟨by unfold raiseE; rw [if_pos HLe.out]; rfl, by unfold raiseT; rw [if_pos HLe.out]; exact HF0.out, HC0.out.mono (by simp)⟩
  · have d : decide ((n : Int) ≤ (c : Int)) = false := by simp; omega
    have d' : decide (n ≤ c) = false := by simp; omega
    have hle2 : Hid (¬ n ≤ counter S.f) := Lib.hid (by rw [← HCc.out]; exact hle)
    clear hle
    go_wp2_with fail
    go_loopw [7, 6] (fun i o wr => ∃ k : Nat, k ≤ 5 ∧ i = .int .i64 ((5 + k : Nat) : Int) ∧ o = .int .i64 (nw S.f k : Nat) ∧ Chg [] w wr) (fun i _ _ => 10 - (intOf i).toNat)
    case atStart => exact ⟨0, by omega, rfl, rfl, HC0.out⟩
    case round =>
      obtain ⟨k, hk, rfl, rfl, hC⟩ := hrel
      obtain ⟨wo, rfl⟩ : ∃ wo : World, wo = wr := ⟨_, rfl⟩
      have HC := Lib.hid hC
      clear hC
      obtain ⟨i, hi⟩ : ∃ i, i = 5 + k := ⟨_, rfl⟩
      rw [← hi]
      by_cases hk2 : k < 5
      · have di : decide ((i : Int) < 10) = true := by simp; omega
        have hV := rvalue_in (H.out.keep HC.out (by simp)) HS.out i (by omega)
        have e1 : i / 5 = 1 := by omega
        have e2 : i % 5 = k := by omega
        rw [e1, e2] at hV
        have hna : newAt S.f k = (good S.f 1 k && decide (S.f (16 * 1 + 3 * k) = c)) := by unfold newAt; rw [HCc.out]
        have hnw : nw S.f (k + 1) = if newAt S.f k then 1 else nw S.f k := rfl
        obtain ⟨x, hx⟩ : ∃ x, x = S.f (16 * 1 + 3 * k) := ⟨_, rfl⟩
        rw [← hx] at hV hna
        have HV := Lib.hid hV
        have HNA := Lib.hid hna
        have HNW := Lib.hid hnw
        have hw1 : wrap64 ((i : Int) + 1) = ((i + 1 : Nat) : Int) := wrap1 i (by omega)
        have HI := Lib.hid hi
        clear hV hna hnw hx e1 e2 hi
        go_wp2_with fail
        refine HV.out.mono ?_
        rintro e w2 ⟨rfl, hC2⟩
        have HC2 : Hid (Chg [] w w2) := Lib.hid (HC.out.trans hC2)
        clear hC2 HV
        cases hg : good S.f 1 k with
        | true =>
          rw [hg] at HNA
          by_cases hxc : x = c
          · have hn1 : nw S.f (k + 1) = 1 := by rw [HNW.out, HNA.out, hxc]; simp
            have HN1 := Lib.hid hn1
            have d0 : ((x : Int) == (c : Int)) = true := by simp; omega
            have d1 : ((x : Int) = (c : Int)) = True := by simp; omega
            clear hxc hn1
            go_wp2
            refine ⟨⟨k + 1, by omega, by first | (rw [HI.out]; rfl) | (rw [hw1, HI.out]; rfl), by rw [HN1.out]; rfl, HC2.out⟩, ?_⟩
            have := HI.out
            first | (rw [hw1]; simp only [intOf, Int.toNat_natCast]; omega) | (simp only [intOf, Int.toNat_natCast]; omega)
          · have hn1 : nw S.f (k + 1) = nw S.f k := by rw [HNW.out, HNA.out]; simp [hxc]
            have HN1 := Lib.hid hn1
            have d0 : ((x : Int) == (c : Int)) = false := by simp; omega
            have d1 : ((x : Int) = (c : Int)) = False := by simp; omega
            have d2 : (x = c) = False := by simp; omega
            clear hxc hn1
            go_wp2
            refine ⟨⟨k + 1, by omega, by first | (rw [HI.out]; rfl) | (rw [hw1, HI.out]; rfl), by rw [HN1.out], HC2.out⟩, ?_⟩
            have := HI.out
            first | (rw [hw1]; simp only [intOf, Int.toNat_natCast]; omega) | (simp only [intOf, Int.toNat_natCast]; omega)
        | false =>
          rw [hg] at HNA
          have hn1 : nw S.f (k + 1) = nw S.f k := by rw [HNW.out, HNA.out]; rfl
          have HN1 := Lib.hid hn1
          clear hn1
          go_wp2
          refine ⟨⟨k + 1, by omega, by first | (rw [HI.out]; rfl) | (rw [hw1, HI.out]; rfl), by rw [HN1.out], HC2.out⟩, ?_⟩
          have := HI.out
          first | (rw [hw1]; simp only [intOf, Int.toNat_natCast]; omega) | (simp only [intOf, Int.toNat_natCast]; omega)
      · obtain rfl : k = 5 := by omega
        have di : decide ((i : Int) < 10) = false := by simp; omega
        rw [nw_five]
        obtain ⟨s, hs⟩ : ∃ s, s = newest S.f := ⟨_, rfl⟩
        have hs2 : s < 2 := by rw [hs]; exact newest_lt _
        rw [← hs]
        have HSs := Lib.hid hs
        obtain ⟨z, hz⟩ : ∃ z, z = 5 * s := ⟨_, rfl⟩
        have m1 : wrap64 (5 * (s : Int)) = (z : Int) := by rw [IntWalk.wrap64_in _ ⟨by omega, by omega⟩]; omega
        have m2 : wrap64 ((z : Int) + 4) = ((z + 4 : Nat) : Int) := by rw [IntWalk.wrap64_in _ ⟨by omega, by omega⟩]; omega
        have HZ : Hid (z = 5 * s ∧ z ≤ 5) := Lib.hid (by omega)
        clear hs hz hk2 hi hk m1 m2
        go_upto_block 2 with (fail)
        go_cut [10] (fun o wx => ∃ v : Int, o = .int .i64 v ∧ v = (if room S.f s = 5 then -1 else ((z + room S.f s : Nat) : Int)) ∧ Chg [] w wx)
        case first =>
          go_wp2_with fail
          go_loopw [11, 10] (fun i o wr => ∃ (j : Nat) (v o' : Int), j ≤ 5 ∧ i = .int .i64 v ∧ v = ((z + j : Nat) : Int) - 1 ∧ o = .int .i64 o' ∧ o' = (if j = 5 then -1 else ((z + j : Nat) : Int)) ∧ rm S.f s j = rm S.f s 5 ∧ Chg [] w wr) (fun i _ _ => (intOf i + 1).toNat)
          case atStart => exact ⟨5, _, _, by omega, rfl, by have := HZ.out; omega, rfl, rfl, rfl, HC.out⟩
          case round =>
            obtain ⟨j, v, o', hj, rfl, hv, rfl, ho, hrm, hC⟩ := hrel
            obtain ⟨wi, rfl⟩ : ∃ wi : World, wi = wr := ⟨_, rfl⟩
            have HCi := Lib.hid hC
            have HR := Lib.hid hrm
            clear hC hrm
            rcases j with _ | j
            · have hr : room S.f s = 0 := by unfold room; rw [← HR.out]; rfl
              have ho2 : o' = (if room S.f s = 5 then -1 else ((z + room S.f s : Nat) : Int)) := by rw [hr, ho]
              have HO2 := Lib.hid ho2
              have dv : decide (v ≥ 5 * (s : Int)) = false := by have := HZ.out; simp; omega
              have dv2 : (5 * (s : Int) ≤ v) = False := by have := HZ.out; simp; omega
              clear hr ho2 ho hv
              go_wp2_with fail
              go_meet
              exact ⟨_, rfl, HO2.out, HCi.out⟩
            · obtain ⟨p, hp⟩ : ∃ p : Nat, p = z + j := ⟨_, rfl⟩
              obtain rfl : v = (p : Int) := by omega
              have dv : decide ((p : Int) ≥ 5 * (s : Int)) = true := by have := HZ.out; simp; omega
              have dv2 : (5 * (s : Int) ≤ (p : Int)) = True := by have := HZ.out; simp; omega
              have hE := rerased_in (H.out.keep HCi.out (by simp)) HS.out p (by have := HZ.out; omega)
              have e1 : p / 5 = s := by have := HZ.out; omega
              have e2 : p % 5 = j := by have := HZ.out; omega
              rw [e1, e2] at hE
              have HE := Lib.hid hE
              have HP := Lib.hid hp
              have HJ := Lib.hid hj
              have HO := Lib.hid ho
              have hw1 : wrap64 ((p : Int) - 1) = (p : Int) - 1 := IntWalk.wrap64_in _ ⟨by omega, by omega⟩
              clear hE e1 e2 hp hv ho hj
              go_wp2_with fail
              refine HE.out.mono ?_
              rintro e w2 ⟨rfl, hC2⟩
              have HC2 : Hid (Chg [] w w2) := Lib.hid (HCi.out.trans hC2)
              clear hC2 HE
              cases hf : fresh S.f s j with
              | true =>
                go_wp2
                go_roundw
                case rel =>
                  refine ⟨j, (p : Int) - 1, (p : Int), by have := HJ.out; omega, by first | rfl | rw [hw1], by rw [HP.out], rfl, ?_, ?_, HC2.out⟩
                  · have := HJ.out; rw [if_neg (by omega), HP.out]
                  · rw [← HR.out, rm, if_pos hf]
                case measure => first | (simp [intOf]; done) | (simp [intOf]; omega)
              | false =>
                have hr : room S.f s = j + 1 := by unfold room; rw [← HR.out, rm, hf]; rfl
                have ho2 : o' = (if room S.f s = 5 then -1 else ((z + room S.f s : Nat) : Int)) := by rw [hr, HO.out]
                have HO2 := Lib.hid ho2
                clear hr ho2
                go_wp2_with fail
                go_meet
                exact ⟨_, rfl, HO2.out, HC2.out⟩
        case rest =>
          obtain ⟨v, rfl, hv, hCc⟩ := hcut
          have HCc2 := Lib.hid hCc
          have HV := Lib.hid hv
          have HFc := Lib.hid (H.out.keep hCc (by simp))
          clear hCc hv
          go_upto_if 50 with (fail)
          go_cut [10] (fun o wx => ∃ (p : Nat) (S' : FS), o = .int .i64 (p : Int) ∧ p < 10 ∧ S'.Ok ∧ Fl wx b S' ∧ Chg [b] w wx ∧ raiseT S n = putT S' (16 * (p / 5) + 3 * (p % 5)) n ∧ raiseE S n = putE S' (16 * (p / 5) + 3 * (p % 5)) n)
          case first =>
            by_cases hr5 : room S.f s = 5
            · have hv1 : v = -1 := by rw [HV.out, if_pos hr5]
              subst hv1
              have HR5 : Hid (room S.f (newest S.f) = 5) := Lib.hid (by rw [← HSs.out]; exact hr5)
              obtain ⟨s', hs'⟩ : ∃ s', s' = 1 - s := ⟨_, rfl⟩
              have hs3 : s' < 2 := by omega
              have w1' : wrap64 (1 - (s : Int)) = (s' : Int) := by rw [IntWalk.wrap64_in _ ⟨by omega, by omega⟩]; omega
              have w2' : (1 : Int) - (s : Int) = (s' : Int) := by omega
              obtain ⟨p, hp⟩ : ∃ p, p = 5 * s' := ⟨_, rfl⟩
              have w3' : wrap64 (5 * (s' : Int)) = (p : Int) := by rw [IntWalk.wrap64_in _ ⟨by omega, by omega⟩]; omega
              have w4' : (5 : Int) * (s' : Int) = (p : Int) := by omega
              have HSs' : Hid (s' = 1 - newest S.f) := Lib.hid (by rw [hs', HSs.out])
              have HPp : Hid (p < 10 ∧ p / 5 = s' ∧ p % 5 = 0) := Lib.hid (by omega)
              have HE := Lib.hid (rerase_in HFc.out HS.out s' hs3)
              clear hr5 hs' hp hs2 hs3
              go_wp2_with fail
              refine HE.out.mono ?_
              rintro e w3 ⟨rfl, hF3, hC3⟩
              have HF3 := Lib.hid hF3
              have HC3 : Hid (Chg [b] w w3) := Lib.hid ((HCc2.out.mono (by simp)).trans hC3)
              clear hF3 hC3 HE
              cases ho : S.okB with
              | true =>
                have hT : raiseT S n = putT (S.erase s') (16 * (p / 5) + 3 * (p % 5)) n := by
                  unfold raiseT; rw [if_neg hle2.out, if_pos HR5.out, ho, HPp.out.2.1, HPp.out.2.2, HSs'.out]; rfl
                have hE : raiseE S n = putE (S.erase s') (16 * (p / 5) + 3 * (p % 5)) n := by
                  unfold raiseE; rw [if_neg hle2.out, if_pos HR5.out, ho, HPp.out.2.1, HPp.out.2.2, HSs'.out]; rfl
                have HT := Lib.hid hT
                have HEe := Lib.hid hE
                clear hT hE
                go_wp2_with fail
                go_meet
                exact ⟨p, S.erase s', rfl, HPp.out.1, HS.out.erase s', HF3.out, HC3.out, HT.out, HEe.out⟩
              | false =>
                have hT : raiseT S n = S.erase s' := by
                  unfold raiseT; rw [if_neg hle2.out, if_pos HR5.out, ho, HSs'.out]; rfl
                have hE : raiseE S n = 19 := by
                  unfold raiseE; rw [if_neg hle2.out, if_pos HR5.out, ho]; rfl
                have HT := Lib.hid hT
                have HEe := Lib.hid hE
                clear hT hE
                go_wp2
                go_ret
                exact ⟨by rw [HEe.out]; rfl, by rw [HT.out]; exact HF3.out, HC3.out⟩
            · obtain ⟨k, hk⟩ : ∃ k, k = room S.f s := ⟨_, rfl⟩
              have hk5 : k < 5 := by have := rm_le S.f s 5; unfold room at hk hr5; omega
              obtain ⟨p, hp⟩ : ∃ p : Nat, p = z + k := ⟨_, rfl⟩
              have hv1 : v = (p : Int) := by rw [HV.out, if_neg hr5, ← hk, hp]
              subst hv1
              have HR5 : Hid (¬ room S.f (newest S.f) = 5) := Lib.hid (by rw [← HSs.out]; exact hr5)
              have HPp : Hid (p < 10 ∧ p / 5 = s ∧ p % 5 = k) := Lib.hid (by have := HZ.out; omega)
              have dp : decide ((p : Int) < 0) = false := by simp
              have hT : raiseT S n = putT S (16 * (p / 5) + 3 * (p % 5)) n := by
                unfold raiseT; rw [if_neg hle2.out, if_neg HR5.out, HPp.out.2.1, HPp.out.2.2, hk, HSs.out]
              have hE : raiseE S n = putE S (16 * (p / 5) + 3 * (p % 5)) n := by
                unfold raiseE; rw [if_neg hle2.out, if_neg HR5.out, HPp.out.2.1, HPp.out.2.2, hk, HSs.out]
              have HT := Lib.hid hT
              have HEe := Lib.hid hE
              clear hT hE hk hk5 hp hr5
              go_wp2_with fail
              go_meet
              exact ⟨p, S, rfl, HPp.out.1, HS.out, HFc.out, HCc2.out.mono (by simp), HT.out, HEe.out⟩
          case rest =>
            obtain ⟨p, S', rfl, hp, hS', hF', hC', hT', hE'⟩ := hcut
            obtain ⟨z', u', y', m', q, q1, q2, hq, hq1, hq2, hlt, e1, e1', ez, e2, e2', e3, e4, e5, e6, e7, e8, e9, e10, e11⟩ := rslot_nums p hp
            rw [← hq] at hT' hE'
            have HS' := Lib.hid hS'
            have HC' := Lib.hid hC'
            have HT' := Lib.hid hT'
            have HE' := Lib.hid hE'
            have hW1 := rwrite_in hF' hS' q n (lt_of3 hq1 hq2 hlt).1 HN.out
            have hP1 : S'.write q n = pS S' q n 1 := rfl
            rw [hP1] at hW1
            have HW1 := Lib.hid hW1
            have HQ : Hid (q1 = q + 1 ∧ q2 = q + 2 ∧ q2 < 32) := Lib.hid ⟨hq1, hq2, hlt⟩
            have HQ1 : Hid (q1 < 32) := Lib.hid (lt_of3 hq1 hq2 hlt).2
            have HMl : Hid (m < 4294967296) := Lib.hid (by rw [HM.out]; exact msub_lt n)
            clear hp hS' hF' hC' hT' hE' hq hq1 hq2 hlt hW1 hP1 HFc
            go_wp2_with fail
            refine HW1.out.mono ?_
            rintro e w4 ⟨rfl, hF4, hC4⟩
            have HF4 := Lib.hid hF4
            have HC4 : Hid (Chg [b] w w4) := Lib.hid (HC'.out.trans hC4)
            clear hF4 hC4 HW1
            cases ho : S'.okB with
            | false =>
              have HEr : Hid (decide (raiseE S n = 0) = false) := Lib.hid (by rw [HE'.out, putE_ok]; show (S'.okB && _ && _) = false; rw [ho]; rfl)
              have HTr : Hid (raiseT S n = pS S' q n 1) := Lib.hid (by rw [HT'.out]; unfold putT; rw [show pS S' q n 0 = S' from rfl, ho]; rfl)
              go_wp2
              go_ret
              exact ⟨by rw [HEr.out]; rfl, by rw [HTr.out]; exact HF4.out, HC4.out⟩
            | true =>
              have hW2 := rwrite_in HF4.out (pS_ok HS'.out q n 1) q1 m HQ1.out HMl.out
              have hP2 : (pS S' q n 1).write q1 m = pS S' q n 2 := by rw [HQ.out.1, HM.out, ← px1 n]; rfl
              rw [hP2] at hW2
              have HW2 := Lib.hid hW2
              clear hW2 hP2
              go_wp2_with fail
              refine HW2.out.mono ?_
              rintro e w5 ⟨rfl, hF5, hC5⟩
              have HF5 := Lib.hid hF5
              have HC5 : Hid (Chg [b] w w5) := Lib.hid (HC4.out.trans hC5)
              clear hF5 hC5 HW2
              cases ho1 : (pS S' q n 1).okB with
              | false =>
                have HEr : Hid (decide (raiseE S n = 0) = false) := Lib.hid (by rw [HE'.out, putE_ok, ho1]; simp)
                have HTr : Hid (raiseT S n = pS S' q n 2) := Lib.hid (by rw [HT'.out]; unfold putT; rw [show pS S' q n 0 = S' from rfl, ho, ho1]; rfl)
                go_wp2
                go_ret
                exact ⟨by rw [HEr.out]; rfl, by rw [HTr.out]; exact HF5.out, HC5.out⟩
              | true =>
                have hW3 := rwrite_in HF5.out (pS_ok HS'.out q n 2) q2 0 (HQ.out.2.2) (by decide)
                have hP3 : (pS S' q n 2).write q2 0 = pS S' q n 3 := by rw [HQ.out.2.1, ← px2 n]; rfl
                rw [hP3] at hW3
                have HW3 : Hid (Calls Try.prog 20 #[.pointer (some ⟨b, 0, none⟩), .int .i64 q2, .int .u32 0] w5 fun e w' => e = .returned (.bool (pS S' q n 2).okB) ∧ Fl w' b (pS S' q n 3) ∧ Chg [b] w5 w') := Lib.hid hW3
                clear hW3 hP3
                go_wp2_with fail
                refine HW3.out.mono ?_
                rintro e w6 ⟨rfl, hF6, hC6⟩
                have HF6 := Lib.hid hF6
                have HC6 : Hid (Chg [b] w w6) := Lib.hid (HC5.out.trans hC6)
                clear hF6 hC6 HW3
                have HEr : Hid (decide (raiseE S n = 0) = (pS S' q n 2).okB) := Lib.hid (by rw [HE'.out, putE_ok, ho1, show pS S' q n 0 = S' from rfl, ho]; rfl)
                have HTr : Hid (raiseT S n = pS S' q n 3) := Lib.hid (by rw [HT'.out]; unfold putT; rw [show pS S' q n 0 = S' from rfl, ho, ho1]; rfl)
                go_wp2
                go_ret
                exact ⟨by rw [HEr.out]; rfl, by rw [HTr.out]; exact HF6.out, HC6.out⟩
end Go.Proofs.L
