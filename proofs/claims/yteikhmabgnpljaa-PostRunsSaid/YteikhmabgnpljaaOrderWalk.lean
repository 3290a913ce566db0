/- Proved here: lemmas and contracts (OrderWalk) for the laws of this seat, for all values of the stated types; no further condition. -/
import Derived.Test.YteikhmabgnpljaaOrderBase
open Go Go.RowKit Go.Lib Go.Conc
namespace Go.Proofs.L
theorem Po.set2 {w pb g cap C L0 L2 L'} (h : Po w pb g cap C ([L0, [], L2].set 2 L')) : Po w pb g cap C [L0, [], L'] := h
theorem Po.set0 {w pb g cap C L0 L2 L'} (h : Po w pb g cap C ([L0, [], L2].set 0 L')) : Po w pb g cap C [L', [], L2] := h
theorem chg_below {N : Nat} {w a b : World} {E : List Nat} (h : Below N w a) (hc : Chg E a b) (hE : ∀ k ∈ E, N ≤ k) (hN : N ≤ a.heap.size) : Below N w b := h.trans (hc.below hE hN)
set_option maxRecDepth 100000 in
set_option maxHeartbeats 6400000 in
theorem order_walk (n1 c1 n2 c2 b1 o1 b2 o2 : Nat) (p1 p2 : Option Addr) (S1 S2 : Nat → ByteArray) (w : World) (h1 : n1 ≤ 100) (h2 : n2 ≤ 100) (hp1 : 0 < n1 → p1 = some ⟨b1, o1, none⟩) (hp2 : 0 < n2 → p2 = some ⟨b2, o2, none⟩)
    (hc1 : ∀ k, k < n1 → w.cell? ⟨b1, o1 + k, none⟩ = some (.string (S1 k))) (hc2 : ∀ k, k < n2 → w.cell? ⟨b2, o2 + k, none⟩ = some (.string (S2 k))) (hs1 : ∀ k, k < n1 → (S1 k).size ≤ maxLen) :
    Calls Try.prog 3 #[.slice p1 n1 c1, .slice p2 n2 c2] w fun e w' => e = .returned (.bool true) ∧ Below w.heap.size w w' := by
  have dl1 : decide ((n1 : Int) > 100) = false := by simp; omega
  have dl2 : decide ((n2 : Int) > 100) = false := by simp; omega
  have dl3 : decide (100 < (n1 : Int)) = false := by simp; omega
  have dl4 : decide (100 < (n2 : Int)) = false := by simp; omega
  have HC1 := Lib.hid hc1
  have HC2 := Lib.hid hc2
  have HP1 := Lib.hid hp1
  have HP2 := Lib.hid hp2
  have HS1 := Lib.hid hs1
  have HN1 := Lib.hid h1
  have HN2 := Lib.hid h2
  clear hc1 hc2 hp1 hp2 hs1 h1 h2
  go_enter Try.func3, Try.ntmps3
  go_wp2_with fail
  refine (fit_ok w).mono ?_
  rintro e w0 ⟨rfl, hB0⟩
  have HB0 := Lib.hid hB0
  clear hB0
  go_wp2_with fail
  refine (new_ok 3 (by omega) (by omega) _).mono ?_
  rintro e w1 ⟨rfl, v, C, hI⟩
  obtain ⟨g, cap, hP⟩ := hI.po (by omega) (by omega)
  have hCl : C.length = 3 := hI.len
  have HP := Lib.hid hP
  have HI : Hid (Below w.heap.size w w1) := Lib.hid (HB0.out.trans (hI.below.mono HB0.out.size))
  have HF : Hid (∀ k ∈ C, w.heap.size ≤ k ∧ k < w1.heap.size) := Lib.hid fun k hk => by
    have := (hI.box k hk).2; have := hP.lt k (by simp [fpP, hk]); have := HB0.out.size; omega
  have HL : Hid (∀ k ∈ fpP w0.heap.size g C, k < w1.heap.size) := Lib.hid hP.lt
  clear hP hI HB0
  generalize w0.heap.size = pb at *
  go_wp2_with fail
  go_loopw [34, 7] (fun i o wr => ∃ (k : Nat) (L0 L2 : List (Int × ByteArray)), k ≤ n1 ∧ i = .int .i64 k ∧ wr.ownsRow w1.heap.size 9 1 o L0.length (strsC L0) ∧ Po wr pb g cap C [L0, [], L2] ∧ Below w.heap.size w wr ∧ w1.heap.size ≤ wr.heap.size) (fun i _ _ => n1 - (intOf i).toNat)
  case atStart => exact ⟨0, [], [], Nat.zero_le _, rfl, World.ownsRow_nil _ _ _ _, HP.out, HI.out, Nat.le_refl _⟩
  case round =>
    obtain ⟨k, L0, L2, hk, rfl, ho, hP, hB, hW⟩ := hrel
    obtain ⟨wo, rfl⟩ : ∃ wo : World, wo = wr := ⟨_, rfl⟩
    have HO := Lib.hid ho
    have HPw := Lib.hid hP
    have HB := Lib.hid hB
    have HW := Lib.hid hW
    clear ho hP hB hW
    by_cases hlt : k < n1
    · have s1 := HC1.out k hlt
      have hb1 := World.block_lt_of_cell? w _ s1
      have t1 : wo.cell? ⟨b1, o1 + k, none⟩ = some (.string (S1 k)) := (HB.out.cell (p := ⟨b1, o1 + k, none⟩) hb1).trans s1
      have hpp := HP1.out (by omega)
      subst hpp
      clear s1 hb1
      go_upto_if 42 with (fail)
      have HT1 := Lib.hid t1
      clear t1
      go_cut [] (fun wx => ∃ L2', Po wx pb g cap C [L0, [], L2'] ∧ Chg [C[2]] wo wx)
      case first =>
        by_cases hk2 : k < n2
        · have d42 : decide ((k : Int) < (n2 : Int)) = true := by simp; omega
          have s2 := HC2.out k hk2
          have hb2 := World.block_lt_of_cell? w _ s2
          have t2 : wo.cell? ⟨b2, o2 + k, none⟩ = some (.string (S2 k)) := (HB.out.cell (p := ⟨b2, o2 + k, none⟩) hb2).trans s2
          have hpp := HP2.out (by omega)
          subst hpp
          clear s2 hb2
          go_wp2_with fail
          refine (send_any HPw.out 2 (by omega) (1, S2 k)).mono ?_
          rintro e w2 ⟨r, L', rfl, hP2, hC2⟩
          have HP2 := Lib.hid hP2.set2
          have HC2 := Lib.hid hC2
          clear hP2 hC2
          go_wp2_with fail
          · refine (take_any HP2.out 2 (by omega)).mono ?_
            rintro e w3 ⟨x, r, L', rfl, hP3, hC3⟩
            have HP3 := Lib.hid hP3.set2
            have HC3 := Lib.hid hC3
            clear hP3 hC3
            go_wp2_with fail
            go_meet
            exact ⟨_, HP3.out, HC2.out.trans HC3.out⟩
          · go_meet
            exact ⟨_, HP2.out, HC2.out⟩
        · have d42 : decide ((k : Int) < (n2 : Int)) = false := by simp; omega
          go_wp2_with fail
          go_meet
          exact ⟨_, HPw.out, Chg.refl _ _⟩
      case rest =>
        obtain ⟨L2', hPc, hCc⟩ := hcut
        have hB2 : C[2] ∈ C := List.getElem_mem _
        have hB0 : C[0] ∈ C := List.getElem_mem _
        have HBc : Hid (Below w.heap.size w wc) := Lib.hid (chg_below HB.out hCc (by simp; exact (HF.out _ hB2).1) HB.out.size)
        have HWc : Hid (w1.heap.size ≤ wc.heap.size) := Lib.hid (Nat.le_trans HW.out hCc.size)
        have HOc : Hid (wc.ownsRow w1.heap.size 9 1 u7 L0.length (strsC L0)) := Lib.hid (ownsRow_chg HO.out hCc (fun x hx hm => by have := (HO.out.lt x hx).1; have := (HF.out _ hB2).2; simp at hm; omega))
        have HPc := Lib.hid hPc
        clear hPc hCc hB2 HB HW HO HPw HT1
        obtain ⟨n, hn⟩ : ∃ n, n = (S1 k).size := ⟨_, rfl⟩
        have HSz : Hid (n ≤ maxLen) := Lib.hid (by rw [hn]; exact HS1.out k hlt)
        obtain ⟨po, co, rfl, hpo⟩ := own_form HOc.out
        by_cases hok : 1 ≤ n ∧ n ≤ 16
        · have e1 : decide (1 ≤ (n : Int)) = true := by simp; omega
          have e2 : decide ((n : Int) ≤ 16) = true := by simp; omega
          have e3 : decide ((n : Int) ≥ 1) = true := by simp; omega
          rcases Nat.lt_or_ge L0.length 4 with hl | hl
          · have H := Lib.hid (send_ok HPc.out 0 (by omega) ((k : Int), S1 k) (by simpa [← hn] using hok.1) (by simpa [← hn] using hok.2) hl)
            clear HPc
            rw [hn] at e1 e2 e3
            have HOk := Lib.hid hok
            have HLl := Lib.hid hl
            have HPo := Lib.hid hpo
            clear hok hl hpo
            go_wp2_with fail
            refine H.out.mono ?_
            rintro e w4 ⟨rfl, hP4, hC4⟩
            have hB0 : C[0] ∈ C := List.getElem_mem _
            have HP4 := Lib.hid hP4.set0
            have HB4 : Hid (Below w.heap.size w w4) := Lib.hid (chg_below HBc.out hC4 (by simp; exact (HF.out _ hB0).1) HBc.out.size)
            have HW4 : Hid (w1.heap.size ≤ w4.heap.size) := Lib.hid (Nat.le_trans HWc.out hC4.size)
            have HO4 : Hid (w4.ownsRow w1.heap.size 9 1 (.slice po L0.length co) L0.length (strsC L0)) := Lib.hid (ownsRow_chg HOc.out hC4 (fun x hx hm => by have := (HOc.out.lt x hx).1; have := (HF.out _ hB0).2; simp at hm; omega))
            clear hP4 hC4 hB0 H HOc HBc HWc
            have dl : decide ((L0.length : Int) < 4) = true := by have := HLl.out; simp; omega
            obtain ⟨i0, hi0, hz0, hz1, hz2⟩ := info_parts info9
            obtain ⟨W4, hW4⟩ : ∃ W4, W4 = w4.alloc (.cells #[.string (S1 k)] 9) := ⟨_, rfl⟩
            have hA : Chg [] w4 W4 := by rw [hW4]; exact (Chg.refl _ _).alloc _
            have HX : Hid (∀ j u, ([Value.string (S1 k)])[j]? = some u → W4.cell? ((⟨w4.heap.size, 0, none⟩ : Addr).add j) = some u) := by
              refine Lib.hid fun j u hj => ?_
              have hr : W4.row? w4.heap.size = some #[.string (S1 k)] := by rw [hW4]; exact row_alloc_at _ _ _ _ rfl
              have := row_cell hr j
              rw [show ((⟨w4.heap.size, 0, none⟩ : Addr).add j) = ⟨w4.heap.size, j, none⟩ by cases j <;> simp [Addr.add], this, ← hj]
              simp
            have HOne : Hid (∀ u ∈ [Value.string (S1 k)], u.oneCell' = true) := Lib.hid (by intro u hu; simp at hu; subst hu; rfl)
            have HO5 : Hid (W4.ownsRow w1.heap.size 9 1 (.slice po L0.length co) L0.length (strsC L0)) := Lib.hid (ownsRow_chg HO4.out hA (by simp))
            have HP5 : Hid (Po W4 pb g cap C [L0 ++ [((k : Int), S1 k)], [], L2']) := Lib.hid (HP4.out.keep0 hA)
            have HB5 : Hid (Below w.heap.size w W4) := Lib.hid (HB4.out.trans (hA.below (by simp) HB4.out.size))
            have HS5 : Hid (w1.heap.size ≤ W4.heap.size) := Lib.hid (Nat.le_trans HW4.out hA.size)
            clear hA
            subst hW4
            go_wp2_with (at_builtin; refine wpList_append_own _ rfl _ _ 22 rfl w1.heap.size 9 i0 (.string ⟨#[]⟩) 1 16 Try.underlying22 hi0 hz0 hz1 hz2 rfl (by decide) (.slice po L0.length co) L0.length (strsC L0) rfl HO5.out ⟨w4.heap.size, 0, none⟩ 1 1 [.string (S1 k)] rfl rfl HX.out HOne.out (by have := HLl.out; unfold maxLen; omega) (by have := HLl.out; omega) HS5.out ?_)
            intro v' W5 hx1 hx2 hx3
            clear hx3
            have H1 : Hid (W5.ownsRow w1.heap.size 9 1 v' (L0 ++ [((k : Int), S1 k)]).length (strsC (L0 ++ [((k : Int), S1 k)]))) := Lib.hid (by simpa [strsC] using hx1)
            have HP6 : Hid (Po W5 pb g cap C [L0 ++ [((k : Int), S1 k)], [], L2']) := Lib.hid (HP5.out.keep (grown_chg hx2) (fun x hx hm => by
              have := HL.out x hx; have := (HO5.out.lt x (by simpa using hm)).1; omega))
            have HB6 : Hid (Below w.heap.size w W5) := Lib.hid (HB5.out.grown hx2 HB5.out.size (fun x hx => by have := (HO5.out.lt x hx).1; have := HI.out.size; omega))
            have HS6 : Hid (w1.heap.size ≤ W5.heap.size) := Lib.hid (Nat.le_trans HS5.out hx2.size)
            clear hx1 hx2 HX HOne HO5 HP5 HB5 HS5 HO4 HP4 HB4 HW4
            go_wp2
            have hwr : wrap64 ((k : Int) + 1) = ((k + 1 : Nat) : Int) := wrap1 k (by have := HN1.out; omega)
            case roundEnd => exact ⟨⟨k + 1, _, L2', hlt, by rw [hwr], H1.out, HP6.out, HB6.out, HS6.out⟩, by rw [hwr]; simp only [intOf, Int.toNat_natCast]; omega⟩
          · have H := Lib.hid (send_fu HPc.out 0 (by omega) ((k : Int), S1 k) (by simpa [← hn] using hok.1) (by simpa [← hn] using hok.2) (by have := HPc.out.small L0 (by simp); show L0.length = 4; omega))
            rw [hn] at e1 e2 e3
            have dl : decide ((L0.length : Int) < 4) = false := by simp; omega
            have HLl := Lib.hid hl
            have HPo := Lib.hid hpo
            clear hok hl hpo
            go_wp2_with fail
            refine H.out.mono ?_
            rintro e w4 ⟨rfl, hP4, hC4⟩
            have HP4 := Lib.hid hP4
            have HB4 : Hid (Below w.heap.size w w4) := Lib.hid (chg_below HBc.out hC4 (by simp) HBc.out.size)
            have HW4 : Hid (w1.heap.size ≤ w4.heap.size) := Lib.hid (Nat.le_trans HWc.out hC4.size)
            have HO4 : Hid (w4.ownsRow w1.heap.size 9 1 (.slice po L0.length co) L0.length (strsC L0)) := Lib.hid (ownsRow_chg HOc.out hC4 (by simp))
            clear hP4 hC4 H HOc HBc HWc HPc
            go_wp2
            have hwr : wrap64 ((k : Int) + 1) = ((k + 1 : Nat) : Int) := wrap1 k (by have := HN1.out; omega)
            case roundEnd => exact ⟨⟨k + 1, L0, L2', hlt, by rw [hwr], HO4.out, HP4.out, HB4.out, HW4.out⟩, by rw [hwr]; simp only [intOf, Int.toNat_natCast]; omega⟩
        · have H := Lib.hid (send_bad HPc.out 0 ((k : Int), S1 k) (.inr (by simpa [← hn] using hok)))
          have HPo := Lib.hid hpo
          clear hpo
          by_cases hn1 : 1 ≤ n
          · have e1 : decide (1 ≤ (n : Int)) = true := by simp; omega
            have e2 : decide ((n : Int) ≤ 16) = false := by simp; omega
            have e3 : decide ((n : Int) ≥ 1) = true := by simp; omega
            rw [hn] at e1 e2 e3
            clear hok hn1 hn
            go_wp2_with fail
            refine H.out.mono ?_
            rintro e w4 ⟨rfl, hP4, hC4⟩
            have HP4 := Lib.hid hP4
            have HB4 : Hid (Below w.heap.size w w4) := Lib.hid (chg_below HBc.out hC4 (by simp) HBc.out.size)
            have HW4 : Hid (w1.heap.size ≤ w4.heap.size) := Lib.hid (Nat.le_trans HWc.out hC4.size)
            have HO4 : Hid (w4.ownsRow w1.heap.size 9 1 (.slice po L0.length co) L0.length (strsC L0)) := Lib.hid (ownsRow_chg HOc.out hC4 (by simp))
            clear hP4 hC4 H HOc HBc HWc HPc
            go_wp2
            have hwr : wrap64 ((k : Int) + 1) = ((k + 1 : Nat) : Int) := wrap1 k (by have := HN1.out; omega)
            case roundEnd => exact ⟨⟨k + 1, L0, L2', hlt, by rw [hwr], HO4.out, HP4.out, HB4.out, HW4.out⟩, by rw [hwr]; simp only [intOf, Int.toNat_natCast]; omega⟩
          · have e1 : decide (1 ≤ (n : Int)) = false := by simp; omega
            have e3 : decide ((n : Int) ≥ 1) = false := by simp; omega
            rw [hn] at e1 e3
            clear hok hn1 hn
            go_wp2_with fail
            refine H.out.mono ?_
            rintro e w4 ⟨rfl, hP4, hC4⟩
            have HP4 := Lib.hid hP4
            have HB4 : Hid (Below w.heap.size w w4) := Lib.hid (chg_below HBc.out hC4 (by simp) HBc.out.size)
            have HW4 : Hid (w1.heap.size ≤ w4.heap.size) := Lib.hid (Nat.le_trans HWc.out hC4.size)
            have HO4 : Hid (w4.ownsRow w1.heap.size 9 1 (.slice po L0.length co) L0.length (strsC L0)) := Lib.hid (ownsRow_chg HOc.out hC4 (by simp))
            clear hP4 hC4 H HOc HBc HWc HPc
            go_wp2
            have hwr : wrap64 ((k : Int) + 1) = ((k + 1 : Nat) : Int) := wrap1 k (by have := HN1.out; omega)
            case roundEnd => exact ⟨⟨k + 1, L0, L2', hlt, by rw [hwr], HO4.out, HP4.out, HB4.out, HW4.out⟩, by rw [hwr]; simp only [intOf, Int.toNat_natCast]; omega⟩
    · have d : decide ((k : Int) < (n1 : Int)) = false := by simp; omega
      obtain ⟨po, co, rfl, hpo⟩ := own_form HO.out
      have HPo := Lib.hid hpo
      clear hpo
      have HL4 : Hid (L0.length ≤ 4) := Lib.hid (HPw.out.small L0 (by simp))
      go_wp2_with fail
      go_loopw [95] (fun i wr => ∃ (j : Nat), j ≤ L0.length ∧ i = .int .i64 j ∧ wr.ownsRow w1.heap.size 9 1 (.slice po L0.length co) L0.length (strsC L0) ∧ Po wr pb g cap C [L0.drop j, [], L2] ∧ Below w.heap.size w wr) (fun i _ => L0.length - (intOf i).toNat)
      case atStart => exact ⟨0, Nat.zero_le _, rfl, HO.out, HPw.out, HB.out⟩
      case round =>
        obtain ⟨j, hj, rfl, ho, hP, hB⟩ := hrel
        have HO2 := Lib.hid ho
        have HP2 := Lib.hid hP
        have HB2 := Lib.hid hB
        clear ho hP hB HO HPw HB HW
        have hB0 : C[0] ∈ C := List.getElem_mem _
        have HF0 := Lib.hid (HF.out _ hB0)
        clear hB0
        by_cases hjl : j < L0.length
        · have d : decide ((j : Int) < (L0.length : Int)) = true := by simp; omega
          obtain ⟨gi, hgi, hob⟩ := HPo.out (by omega)
          have cj := cellsAt HO2.out hob j (.string L0[j].2) (by simp [strsC, hjl])
          subst hgi
          have HOb := Lib.hid hob
          clear hob
          go_wp2_with fail
          refine (take_ok HP2.out 0 (by omega) L0[j] (L0.drop (j + 1)) (by show L0.drop j = _; exact List.drop_eq_getElem_cons hjl)).mono ?_
          rintro e w4 ⟨rfl, hP4, hC4⟩
          have HP4 := Lib.hid hP4.set0
          have HB4 : Hid (Below w.heap.size w w4) := Lib.hid (chg_below HB2.out hC4 (by simp; exact HF0.out.1) HB2.out.size)
          have HO4 : Hid (w4.ownsRow w1.heap.size 9 1 (.slice (some ⟨gi, 0, none⟩) L0.length co) L0.length (strsC L0)) := Lib.hid (ownsRow_chg HO2.out hC4 (fun x hx hm => by have := (HO2.out.lt x hx).1; have := HF0.out.2; simp at hm; omega))
          clear hP4 hC4
          unfold letV
          go_wp2_with fail
          have hA : Chg [] w4 (w4.alloc (.cells #[.int .i64 L0[j].1, .string L0[j].2] 30)) := (Chg.refl _ _).alloc _
          have hj4 : j < 4 := by have := HL4.out; omega
          have hwr : wrap64 ((j : Int) + 1) = ((j + 1 : Nat) : Int) := wrap1 j (by omega)
          exact ⟨⟨j + 1, by omega, by rw [hwr], ownsRow_chg HO4.out hA (by simp), HP4.out.keep0 hA, chg_below HB4.out hA (by simp) HB4.out.size⟩, by rw [hwr]; simp only [intOf, Int.toNat_natCast]; omega⟩
        · have d : decide ((j : Int) < (L0.length : Int)) = false := by simp; omega
          obtain rfl : j = L0.length := by omega
          go_wp2_with fail
          refine (take_em HP2.out 0 (by omega) (by show L0.drop L0.length = []; simp)).mono ?_
          rintro e w4 ⟨rfl, hP4, hC4⟩
          have HP4 := Lib.hid hP4
          have HB4 : Hid (Below w.heap.size w w4) := Lib.hid (chg_below HB2.out hC4 (by simp) HB2.out.size)
          clear hP4 hC4
          unfold zV
          go_wp2_with fail
          refine (count_in (HP4.out.keep0 ((Chg.refl _ _).alloc _)) 1 (by omega)).mono ?_
          rintro e w5 ⟨rfl, rfl⟩
          go_wp2
          go_ret
          exact ⟨rfl, HB4.out.alloc HB4.out.size _⟩
end Go.Proofs.L
