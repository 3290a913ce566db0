/- Proved here: lemmas and contracts (RisesWalk) for the laws of this seat, for all values of the stated types; no further condition. -/
import Derived.Test.YtfalldoimbedbaaWearsWalk
import Derived.Test.YtfalldoimbedbaaRaiseLaw
open Go Go.RowKit Go.Lib
namespace Go.Proofs.L
/-- full power -/
structure Live (S : FS) : Prop where
  fu : S.fu = -1
  de : S.de = false
theorem Live.okB {S} (h : Live S) : S.okB = true := by unfold FS.okB; rw [h.fu, h.de]; rfl
theorem Live.step {S} (h : Live S) : S.step = S := by unfold FS.step; rw [h.fu, h.de]; rfl
theorem Live.write {S} (h : Live S) (i x) : Live (S.write i x) := by
  have e : S.write i x = { S with f := up S.f i (S.f i &&& x) } := by unfold FS.write; rw [h.okB, h.step]; rfl
  rw [e]; exact ⟨h.fu, h.de⟩
theorem Live.erase {S} (h : Live S) (s) : Live (S.erase s) := by
  have e : S.erase s = { S with f := eraseW S.f (16 * s) 4294967295 16 } := by unfold FS.erase; rw [h.okB, h.step]; rfl
  rw [e]; exact ⟨h.fu, h.de⟩
theorem Live.pS {S} (h : Live S) (q n) : ∀ k, Live (pS S q n k)
  | 0 => h
  | k + 1 => (Live.pS h q n k).write _ _
theorem Live.putT {S} (h : Live S) (q n) : Live (putT S q n) := by
  unfold L.putT; repeat' split
  all_goals exact h.pS _ _ _
theorem Live.raiseT {S} (h : Live S) (n) : Live (raiseT S n) := by
  unfold L.raiseT; repeat' split
  · exact h
  · exact (h.erase _).putT _ _
  · exact h.erase _
  · exact h.putT _ _
theorem raise_live {S : FS} (hS : S.Ok) (h : Live S) {n : Nat} (hn : n < 4294967296) : raiseE S n = 0 ∧ counter (raiseT S n).f = max (counter S.f) n := by
  rcases raise_law hS hn with ⟨h1, h2, -⟩ | ⟨-, h2, -⟩
  · exact ⟨h1, h2⟩
  · rw [(h.raiseT n).de] at h2; cases h2
def FS.again (S : FS) : FS := { S with fu := -1, tn := 0, de := false }
theorem again_f (S : FS) : S.again.f = S.f := rfl
theorem again_ok {S : FS} (h : S.Ok) : S.again.Ok := ⟨h.f, Nat.zero_lt_succ _, by show (-1 : Int) < 9223372036854775808; decide⟩
theorem again_live (S : FS) : Live S.again := ⟨rfl, rfl⟩
theorem again2 {w b S} (h : Fl w b S) : Calls Try.prog 16 #[.pointer (some ⟨b, 0, none⟩)] w fun e w' => e = .returned (.pointer (some ⟨w.heap.size, 0, none⟩)) ∧ Fl w' w.heap.size S.again ∧ Chg [] w w' := again_in h
theorem wrap1 (k : Nat) (h : k < 100000000) : wrap64 ((k : Int) + 1) = ((k + 1 : Nat) : Int) := by
  rw [IntWalk.wrap64_in _ ⟨by omega, by omega⟩]; simp
theorem tmod6 (i : Int) : -6 < i.tmod 6 ∧ i.tmod 6 < 6 := by
  rcases Int.le_total 0 i with h | h
  · rw [Int.tmod_eq_emod_of_nonneg h]; omega
  · have : i.tmod 6 = -((-i).tmod 6) := by rw [Int.neg_tmod, Int.neg_neg]
    rw [this, Int.tmod_eq_emod_of_nonneg (by omega)]; omega
set_option maxRecDepth 100000 in
set_option maxHeartbeats 6400000 in
theorem rises_walk (n1 k1 n2 k2 n3 k3 b1 o1 b2 o2 b3 o3 : Nat) (p1 p2 p3 : Option Addr) (X1 X3 : Nat → Nat) (X2 : Nat → Int) (w : World) (h1 : n1 ≤ 100) (h2 : n2 ≤ 100) (h3 : n3 ≤ 100) (hp1 : 0 < n1 → p1 = some ⟨b1, o1, none⟩) (hp2 : 0 < n2 → p2 = some ⟨b2, o2, none⟩) (hp3 : 0 < n3 → p3 = some ⟨b3, o3, none⟩)
    (hc1 : ∀ k, k < n1 → w.cell? ⟨b1, o1 + k, none⟩ = some (.int .u32 (X1 k : Int))) (hc2 : ∀ k, k < n2 → w.cell? ⟨b2, o2 + k, none⟩ = some (.int .i64 (X2 k))) (hc3 : ∀ k, k < n3 → w.cell? ⟨b3, o3 + k, none⟩ = some (.int .u32 (X3 k : Int)))
    (hx1 : ∀ k, X1 k < 4294967296) (hx3 : ∀ k, X3 k < 4294967296) :
    Calls Try.prog 6 #[.slice p1 n1 k1, .slice p2 n2 k2, .slice p3 n3 k3] w fun e w' => e = .returned (.bool true) ∧ Below w.heap.size w w' := by
  have dl1 : decide ((n1 : Int) > 100) = false := by simp; omega
  have dl2 : decide ((n2 : Int) > 100) = false := by simp; omega
  have dl3 : decide ((n3 : Int) > 100) = false := by simp; omega
  have dl4 : decide (100 < (n1 : Int)) = false := by simp; omega
  have dl5 : decide (100 < (n2 : Int)) = false := by simp; omega
  have dl6 : decide (100 < (n3 : Int)) = false := by simp; omega
  have HC1 := Lib.hid hc1
  have HC2 := Lib.hid hc2
  have HC3 := Lib.hid hc3
  have HP1 := Lib.hid hp1
  have HP2 := Lib.hid hp2
  have HP3 := Lib.hid hp3
  have HX1 := Lib.hid hx1
  have HX3 := Lib.hid hx3
  have HL1 := Lib.hid h1
  clear hc1 hc2 hc3 hp1 hp2 hp3 hx1 hx3 h1 h2 h3
  go_enter Try.func6, Try.ntmps6
  go_wp2_with fail
  refine (fit_ok w).mono ?_
  rintro e w0 ⟨rfl, hB0⟩
  have HB0 := Lib.hid hB0
  clear hB0
  go_wp2_with fail
  refine (new_any w0).mono ?_
  rintro e w1 ⟨rfl, hF1, hC1⟩
  have HB1 : Hid (Below w.heap.size w w1) := Lib.hid (chg_below HB0.out hC1 (by simp) HB0.out.size)
  have HF1 := Lib.hid hF1
  have HN0 : Hid (w.heap.size ≤ w0.heap.size) := Lib.hid HB0.out.size
  clear hF1 hC1 HB0
  generalize w0.heap.size = b0 at *
  go_wp2_with fail
  go_loopw [31, 7, 8] (fun i pt o wr => ∃ (k c b : Nat) (S : FS), k ≤ n1 ∧ i = .int .i64 k ∧ pt = .pointer (some ⟨b, 0, none⟩) ∧ o = .int .u32 (c : Int) ∧ S.Ok ∧ Live S ∧ counter S.f = c ∧ Fl wr b S ∧ w.heap.size ≤ b ∧ Below w.heap.size w wr) (fun i _ _ _ => n1 - (intOf i).toNat)
  case atStart => exact ⟨0, 0, b0, newS, Nat.zero_le _, rfl, rfl, rfl, newS_ok, ⟨rfl, rfl⟩, by decide +kernel, HF1.out, HN0.out, HB1.out⟩
  case round =>
    obtain ⟨k, c, b, S, hk, rfl, rfl, rfl, hS, hL, hcn, hF, hN, hB⟩ := hrel
    obtain ⟨wo, rfl⟩ : ∃ wo : World, wo = wr := ⟨_, rfl⟩
    have HS := Lib.hid hS
    have HL := Lib.hid hL
    have HK := Lib.hid hcn
    have HF := Lib.hid hF
    have HN := Lib.hid hN
    have HB := Lib.hid hB
    have HD : Hid (S.de = false) := Lib.hid hL.de
    have HCl : Hid (c < 4294967296) := Lib.hid (by rw [← hcn]; exact cnt_lt hS.f 10)
    clear hS hL hcn hF hN hB
    by_cases hlt : k < n1
    · have dk : decide ((k : Int) < (n1 : Int)) = true := by simp; omega
      have q1 := HC1.out k hlt
      have hsb := World.block_lt_of_cell? w _ q1
      have s1 : wo.cell? ⟨b1, o1 + k, none⟩ = some (.int .u32 (X1 k : Int)) := (HB.out.cell (p := ⟨b1, o1 + k, none⟩) hsb).trans q1
      have hpp := HP1.out (by omega)
      subst hpp
      clear q1 hsb
      go_upto_region 10 with (fail)
      have HT1 := Lib.hid s1
      clear s1
      go_cut [45] (fun v wx => v = .bool (decide (k < n2 ∧ k < n3)) ∧ wx = wo)
      case first =>
        by_cases e2 : k < n2
        · have d2 : decide ((k : Int) < (n2 : Int)) = true := by simp; omega
          by_cases e3 : k < n3
          · have d3 : decide ((k : Int) < (n3 : Int)) = true := by simp; omega
            go_wp2_with fail
            go_meet
            exact ⟨by simp [e2, e3], rfl⟩
          · have d3 : decide ((k : Int) < (n3 : Int)) = false := by simp; omega
            go_wp2_with fail
            go_meet
            exact ⟨by simp [e2, e3], rfl⟩
        · have d2 : decide ((k : Int) < (n2 : Int)) = false := by simp; omega
          go_wp2_with fail
          go_meet
          exact ⟨by simp [e2], rfl⟩
      case rest =>
        obtain ⟨rfl, rfl⟩ := hcut
        go_upto_if 45 with (fail)
        go_cut [] (fun wx => ∃ S' : FS, S'.Ok ∧ S'.de = false ∧ S'.f = S.f ∧ Fl wx b S' ∧ Below w.heap.size w wx)
        case first =>
          by_cases e23 : k < n2 ∧ k < n3
          · have dd : decide (k < n2 ∧ k < n3) = true := by simpa using e23
            have q2 := HC2.out k e23.1
            have hs2 := World.block_lt_of_cell? w _ q2
            have c2 : wc.cell? ⟨b2, o2 + k, none⟩ = some (.int .i64 (X2 k)) := (HB.out.cell (p := ⟨b2, o2 + k, none⟩) hs2).trans q2
            have q3 := HC3.out k e23.2
            have hs3 := World.block_lt_of_cell? w _ q3
            have c3 : wc.cell? ⟨b3, o3 + k, none⟩ = some (.int .u32 (X3 k : Int)) := (HB.out.cell (p := ⟨b3, o3 + k, none⟩) hs3).trans q3
            have hpp2 := HP2.out (by omega)
            have hpp3 := HP3.out (by omega)
            subst hpp2 hpp3
            clear q2 hs2 q3 hs3
            obtain ⟨r, hr, hr6⟩ : ∃ r : Int, (wrap64 ((X2 k).tmod 6 + 6)).tmod 6 = r ∧ 0 ≤ r ∧ r < 6 := by
              have h := tmod6 (X2 k)
              refine ⟨_, rfl, ?_⟩
              rw [IntWalk.wrap64_in _ ⟨by omega, by omega⟩, Int.tmod_eq_emod_of_nonneg (by omega)]
              omega
            have hr2 : (IntKind.i64.wrap ((X2 k).tmod 6 + 6)).tmod 6 = r := by rw [i64w]; exact hr
            have j0 : (0 : Int) ≤ (k : Int) := Int.natCast_nonneg _
            have j2 : (k : Int) < (n2 : Int) := by omega
            have j3 : (k : Int) < (n3 : Int) := by omega
            have HFu := Lib.hid (fuel_in (HF.out.keep (E := []) (Chg.refl _ _).drew (by simp)) r (X3 k))
            go_wp2_with fail
            refine wp_region_C (fun w' => w'.cell? ⟨b2, o2 + k, none⟩ = some (.int .i64 (X2 k)) ∧ w'.cell? ⟨b3, o3 + k, none⟩ = some (.int .u32 (X3 k : Int))) [(0, 0), (1, 0), (2, 0), (3, 0), (4, 1), (5, 0), (6, 0), (7, 0), (8, 0), (9, 0), (10, 0), (11, 1), (12, 3)] rfl (by kernel_rfl) ?hSF ?hTF
            case hSF => exact ⟨c2, c3⟩
            refine wpT_pureD (v := ?_) (some 46) rfl rfl (by rfl) (fun w' => ?_) ?_
            rotate_left
            · (go_simp; try with_reducible rfl)
            try simp only [Act.put, List.setIfInBounds_toArray, List.set_cons_zero, List.set_cons_succ]
            refine wpT_pureD (v := ?_) (some 47) rfl rfl (by rfl) (fun w' => ?_) ?_
            rotate_left
            · (go_simp; try with_reducible rfl)
            try simp only [Act.put, List.setIfInBounds_toArray, List.set_cons_zero, List.set_cons_succ]
            refine wpT_pureD (v := ?_) (some 48) rfl rfl (by rfl) (fun w' => ?_) ?_
            rotate_left
            · (go_simp; try with_reducible rfl)
            try simp only [Act.put, List.setIfInBounds_toArray, List.set_cons_zero, List.set_cons_succ]
            refine wpT_pureD (v := ?_) (some 49) rfl rfl (by rfl) (fun w' => ?_) ?_
            rotate_left
            · (go_simp; try with_reducible rfl)
            try simp only [Act.put, List.setIfInBounds_toArray, List.set_cons_zero, List.set_cons_succ]
            refine wpT_readD (v := ?_) (some 50) rfl rfl (by rfl) (fun w' hw => ?_) ?_
            rotate_left
            · (obtain ⟨q0, q1⟩ := hw; go_simp; try with_reducible rfl)
            try simp only [Act.put, List.setIfInBounds_toArray, List.set_cons_zero, List.set_cons_succ]
            refine wpT_pureD (v := ?_) (some 51) rfl rfl (by rfl) (fun w' => ?_) ?_
            rotate_left
            · (go_simp; try with_reducible rfl)
            try simp only [Act.put, List.setIfInBounds_toArray, List.set_cons_zero, List.set_cons_succ]
            refine wpT_pureD (v := ?_) (some 52) rfl rfl (by rfl) (fun w' => ?_) ?_
            rotate_left
            · (go_simp; try with_reducible rfl)
            try simp only [Act.put, List.setIfInBounds_toArray, List.set_cons_zero, List.set_cons_succ]
            refine wpT_pureD (v := ?_) (some 53) rfl rfl (by rfl) (fun w' => ?_) ?_
            rotate_left
            · (go_simp; try with_reducible rfl)
            try simp only [Act.put, List.setIfInBounds_toArray, List.set_cons_zero, List.set_cons_succ]
            refine wpT_pureD (v := ?_) (some 54) rfl rfl (by rfl) (fun w' => ?_) ?_
            rotate_left
            · (go_simp; try with_reducible rfl)
            try simp only [Act.put, List.setIfInBounds_toArray, List.set_cons_zero, List.set_cons_succ]
            refine wpT_pureD (v := ?_) (some 55) rfl rfl (by rfl) (fun w' => ?_) ?_
            rotate_left
            · (go_simp; try with_reducible rfl)
            try simp only [Act.put, List.setIfInBounds_toArray, List.set_cons_zero, List.set_cons_succ]
            refine wpT_pureD (v := ?_) (some 56) rfl rfl (by rfl) (fun w' => ?_) ?_
            rotate_left
            · (go_simp; try with_reducible rfl)
            try simp only [Act.put, List.setIfInBounds_toArray, List.set_cons_zero, List.set_cons_succ]
            refine wpT_readD (v := ?_) (some 57) rfl rfl (by rfl) (fun w' hw => ?_) ?_
            rotate_left
            · (obtain ⟨q0, q1⟩ := hw; go_simp; try with_reducible rfl)
            try simp only [Act.put, List.setIfInBounds_toArray, List.set_cons_zero, List.set_cons_succ]
            refine wpT_brk rfl (by rfl) (fun K hK => ?_)
            go_wp2_with fail
            refine HFu.out.mono ?_
            rintro e w3 ⟨rfl, hF3, hC3⟩
            have HF3 := Lib.hid hF3
            have HB3 : Hid (Below w.heap.size w w3) := Lib.hid (chg_below HB.out.drew hC3 (by simp; exact HN.out) (by have := HB.out.size; simpa using this))
            clear hF3 hC3
            go_wp2_with fail
            refine wpT_end ?_
            go_wp2
            go_meet
            exact ⟨{ S with fu := max r (-1), tn := X3 k }, ⟨HS.out.f, HX3.out k, by show max r (-1) < _; omega⟩, HD.out, rfl, HF3.out, HB3.out⟩
          · have dd : decide (k < n2 ∧ k < n3) = false := by simp only [decide_eq_false_iff_not]; exact e23
            go_wp2_with fail
            go_meet
            exact ⟨S, HS.out, HD.out, rfl, HF.out, HB.out⟩
        case rest =>
          obtain ⟨S', hS', hD', hf', hF', hB'⟩ := hcut
          have HS' := Lib.hid hS'
          have HF' := Lib.hid hF'
          have HB' := Lib.hid hB'
          have hlaw := raise_law hS' (HX1.out k)
          have hR := raise_in hF' hS' (X1 k) (HX1.out k)
          have hOk := raiseT_ok hS' (X1 k)
          have hcc : counter S'.f = c := by rw [hf', HK.out]
          rw [hcc] at hlaw
          obtain ⟨n, hn⟩ : ∃ n, n = X1 k := ⟨_, rfl⟩
          rw [← hn] at hlaw hR hOk ⊢
          have HN1 : Hid (n < 4294967296) := Lib.hid (by rw [hn]; exact HX1.out k)
          have HR := Lib.hid hR
          have HLaw := Lib.hid hlaw
          have HOk := Lib.hid hOk
          clear hS' hD' hf' hF' hB' hlaw hR hOk hcc hn
          go_wp2_with fail
          refine HR.out.mono ?_
          rintro e w4 ⟨rfl, hF4, hC4⟩
          have HF4 := Lib.hid hF4
          have HB4 : Hid (Below w.heap.size w w4) := Lib.hid (chg_below HB'.out hC4 (by simp; exact HN.out) HB'.out.size)
          have HK4 := Lib.hid (counter_in hF4 HOk.out)
          obtain ⟨T, hT⟩ : ∃ T, T = raiseT S' n := ⟨_, rfl⟩
          obtain ⟨g, hg⟩ : ∃ g, g = counter T.f := ⟨_, rfl⟩
          obtain ⟨er, her⟩ : ∃ er, er = raiseE S' n := ⟨_, rfl⟩
          have hgl : g < 4294967296 := by rw [hg, hT]; exact cnt_lt HOk.out.f 10
          rw [← hT] at HF4 HK4 HOk HLaw
          rw [← her] at HLaw ⊢
          rw [← hg] at HK4 HLaw
          have HG := Lib.hid hg
          have HGl := Lib.hid hgl
          clear hF4 hC4 HR hg hgl hT her HF' HS' HB'
          go_wp2_with fail
          refine HK4.out.mono ?_
          rintro e w5 ⟨rfl, hC5⟩
          have HF5 := Lib.hid (HF4.out.keep hC5 (by simp))
          have HB5 : Hid (Below w.heap.size w w5) := Lib.hid (chg_below HB4.out hC5 (by simp) HB4.out.size)
          clear hC5 HK4 HF4 HB4
          go_upto_region 14 with (fail)
          go_cut [100] (fun v wx => v = .bool false ∧ wx = w5)
          case first =>
            rcases HLaw.out with ⟨h1, h2, -⟩ | ⟨h1, h2, h3, h4⟩
            · subst h1
              by_cases hcn : c ≤ n
              · obtain rfl : g = n := by omega
                have f1 : ((g : Int) < (c : Int)) = False := by simp; omega
                have f2 : decide ((g : Int) < (c : Int)) = false := by simp; omega
                have f3 : decide (g < c) = false := by simp; omega
                clear h2
                go_wp2_with fail
                all_goals
                  go_meet
                  exact ⟨by first | (simp; done) | (simp; omega), rfl⟩
              · obtain rfl : g = c := by omega
                have f1 : ((g : Int) < (g : Int)) = False := by simp
                have f2 : ((g : Int) < (n : Int)) = False := by simp; omega
                have f3 : ((n : Int) < (g : Int)) = True := by simp; omega
                have f4 : ((g : Int) ≤ (n : Int)) = False := by simp; omega
                clear h2
                go_wp2_with fail
                all_goals
                  go_meet
                  exact ⟨by first | (simp; done) | (simp; omega), rfl⟩
            · subst h1
              have HDd := dead_in HF5.out
              rw [h2] at HDd
              have HDd := Lib.hid HDd
              by_cases hgc : g = c
              · subst hgc
                clear h2 h3 h4
                go_wp2_with fail
                refine HDd.out.mono ?_
                rintro e w6 ⟨rfl, rfl⟩
                go_wp2_with fail
                all_goals
                  go_meet
                  exact ⟨by first | (simp; done) | (simp; omega), rfl⟩
              · have hgn : g = n := by omega
                subst hgn
                have f1 : ((g : Int) < (c : Int)) = False := by simp; omega
                have f2 : decide ((g : Int) < (c : Int)) = false := by simp; omega
                have f3 : decide (g < c) = false := by simp; omega
                have f4 : ((g : Int) == (c : Int)) = false := by simp; omega
                have f5 : ((g : Int) = (c : Int)) = False := by simp; omega
                have f6 : (g = c) = False := by simp; omega
                clear h2 h3 h4
                go_wp2_with fail
                refine HDd.out.mono ?_
                rintro e w6 ⟨rfl, rfl⟩
                go_wp2_with fail
                all_goals
                  go_meet
                  exact ⟨by first | (simp; done) | (simp; omega), rfl⟩
          case rest =>
            obtain ⟨rfl, rfl⟩ := hcut
            go_wp2_with fail
            refine (again2 HF5.out).mono ?_
            rintro e w6 ⟨rfl, hF6, hC6⟩
            have HF6 := Lib.hid hF6
            have HB6 : Hid (Below w.heap.size w w6) := Lib.hid (chg_below HB5.out hC6 (by simp) HB5.out.size)
            have hz : w.heap.size ≤ wc.heap.size := HB5.out.size
            have HZ := Lib.hid hz
            have hok6 := again_ok HOk.out
            have HO6 := Lib.hid hok6
            have hk6 := counter_in hF6 hok6
            have hg6 : counter T.again.f = g := by rw [again_f]; exact HG.out.symm
            rw [hg6] at hk6
            have HG6 := Lib.hid hg6
            have HK6 := Lib.hid hk6
            clear hF6 hC6 hz hok6 hk6 hg6
            generalize wc.heap.size = b6 at *
            go_wp2_with fail
            refine HK6.out.mono ?_
            rintro e w7 ⟨rfl, hC7⟩
            have HF7 := Lib.hid (HF6.out.keep hC7 (by simp))
            have HB7 : Hid (Below w.heap.size w w7) := Lib.hid (chg_below HB6.out hC7 (by simp) HB6.out.size)
            clear hC7 HK6 HF6 HB6
            have hwr := wrap1 k (by have := HL1.out; omega)
            go_wp2
            exact ⟨⟨k + 1, g, b6, T.again, Nat.succ_le_of_lt hlt, by rw [hwr], rfl, rfl, HO6.out, again_live T, HG6.out, HF7.out, HZ.out, HB7.out⟩, by rw [hwr]; simp only [intOf, Int.toNat_natCast]; exact Nat.sub_lt_sub_left hlt (Nat.lt_succ_self k)⟩
    · obtain rfl : k = n1 := by omega
      have dk : decide ((k : Int) < (k : Int)) = false := by simp
      by_cases hm : c = 4294967295
      · have d0 : ((c : Int) == 4294967295) = true := by rw [beq_iff_eq]; omega
        have hR := raise_in HF.out HS.out c HCl.out
        rw [(raise_live HS.out HL.out HCl.out).1] at hR
        have HR := Lib.hid hR
        have d1 : ((c : Int) = 4294967295) = True := by simp; omega
        have d2 : (c = 4294967295) = True := by simp; omega
        clear hR hm
        go_wp2_with fail
        refine HR.out.mono ?_
        rintro e w4 ⟨rfl, hF4, hC4⟩
        go_wp2
        go_ret
        exact ⟨rfl, chg_below HB.out hC4 (by simp; exact HN.out) HB.out.size⟩
      · have HM := Lib.hid hm
        have d0 : ((c : Int) == 4294967295) = false := by rw [beq_eq_false_iff_ne]; omega
        have d1 : ((c : Int) = 4294967295) = False := by simp; omega
        have d2 : (c = 4294967295) = False := by simp; omega
        obtain ⟨n, hn⟩ : ∃ n, n = c + 1 := ⟨_, rfl⟩
        have hn2 : n < 4294967296 := by have := HCl.out; omega
        have hw : IntKind.u32.wrap ((c : Int) + 1) = (n : Int) := by rw [u32w]; omega
        have hR := raise_in HF.out HS.out n hn2
        have hl := raise_live HS.out HL.out hn2
        have hok := raiseT_ok HS.out n
        rw [hl.1] at hR
        have hcc : counter (raiseT S n).f = n := by rw [hl.2, HK.out]; omega
        obtain ⟨T, hT⟩ : ∃ T, T = raiseT S n := ⟨_, rfl⟩
        rw [← hT] at hR hok hcc
        have HR := Lib.hid hR
        have HOk := Lib.hid hok
        have HCc := Lib.hid hcc
        clear hR hm hl hok hcc hT hn hn2
        go_wp2_with fail
        refine HR.out.mono ?_
        rintro e w4 ⟨rfl, hF4, hC4⟩
        have hk4 := counter_in hF4 HOk.out
        rw [HCc.out] at hk4
        have HK4 := Lib.hid hk4
        have HB4 : Hid (Below w.heap.size w w4) := Lib.hid (chg_below HB.out hC4 (by simp; exact HN.out) HB.out.size)
        clear hF4 hC4 hk4 HR
        go_wp2_with fail
        refine HK4.out.mono ?_
        rintro e w5 ⟨rfl, hC5⟩
        go_wp2
        go_ret
        exact ⟨by simp, chg_below HB4.out hC5 (by simp) HB4.out.size⟩
theorem rises_all (n1 k1 n2 k2 n3 k3 b1 o1 b2 o2 b3 o3 : Nat) (p1 p2 p3 : Option Addr) (X1 X3 : Nat → Nat) (X2 : Nat → Int) (w : World) (hp1 : 0 < n1 → p1 = some ⟨b1, o1, none⟩) (hp2 : 0 < n2 → p2 = some ⟨b2, o2, none⟩) (hp3 : 0 < n3 → p3 = some ⟨b3, o3, none⟩)
    (hc1 : ∀ k, k < n1 → w.cell? ⟨b1, o1 + k, none⟩ = some (.int .u32 (X1 k : Int))) (hc2 : ∀ k, k < n2 → w.cell? ⟨b2, o2 + k, none⟩ = some (.int .i64 (X2 k))) (hc3 : ∀ k, k < n3 → w.cell? ⟨b3, o3 + k, none⟩ = some (.int .u32 (X3 k : Int)))
    (hx1 : ∀ k, X1 k < 4294967296) (hx3 : ∀ k, X3 k < 4294967296) :
    Calls Try.prog 6 #[.slice p1 n1 k1, .slice p2 n2 k2, .slice p3 n3 k3] w fun e w' => e = .returned (.bool true) ∧ Below w.heap.size w w' := by
  by_cases h : n1 ≤ 100 ∧ n2 ≤ 100 ∧ n3 ≤ 100
  · exact rises_walk n1 k1 n2 k2 n3 k3 b1 o1 b2 o2 b3 o3 p1 p2 p3 X1 X3 X2 w h.1 h.2.1 h.2.2 hp1 hp2 hp3 hc1 hc2 hc3 hx1 hx3
  · clear hp1 hp2 hp3 hc1 hc2 hc3 hx1 hx3
    by_cases h1 : n1 ≤ 100
    · have d1 : decide ((n1 : Int) > 100) = false := by simp; omega
      have d1' : decide (100 < (n1 : Int)) = false := by simp; omega
      by_cases h2 : n2 ≤ 100
      · have d2 : decide ((n2 : Int) > 100) = false := by simp; omega
        have d2' : decide (100 < (n2 : Int)) = false := by simp; omega
        have d3 : decide ((n3 : Int) > 100) = true := by simp; omega
        have d3' : decide (100 < (n3 : Int)) = true := by simp; omega
        go_enter Try.func6, Try.ntmps6
        go_wp2_with fail
        refine (fit_ok w).mono ?_
        rintro e w0 ⟨rfl, hB0⟩
        go_wp2
        go_ret
        exact ⟨rfl, hB0⟩
      · have d2 : decide ((n2 : Int) > 100) = true := by simp; omega
        have d2' : decide (100 < (n2 : Int)) = true := by simp; omega
        go_enter Try.func6, Try.ntmps6
        go_wp2_with fail
        refine (fit_ok w).mono ?_
        rintro e w0 ⟨rfl, hB0⟩
        go_wp2
        go_ret
        exact ⟨rfl, hB0⟩
    · have d1 : decide ((n1 : Int) > 100) = true := by simp; omega
      have d1' : decide (100 < (n1 : Int)) = true := by simp; omega
      go_enter Try.func6, Try.ntmps6
      go_wp2_with fail
      refine (fit_ok w).mono ?_
      rintro e w0 ⟨rfl, hB0⟩
      go_wp2
      go_ret
      exact ⟨rfl, hB0⟩
end Go.Proofs.L
