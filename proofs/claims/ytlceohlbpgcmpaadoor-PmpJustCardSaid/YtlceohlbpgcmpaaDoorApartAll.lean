/- Proved here: lemmas and contracts (ApartAll) for the laws of this seat, for all values of the stated types; no further condition. -/
import Derived.Test.YtlceohlbpgcmpaaDoorApart
open Go Go.RowKit Go.Lib
namespace Go.Proofs.L
attribute [local irreducible] wpT
theorem pair_take (G : List Gr) (k : Nat) (g : Gr) (h : G[k]? = some g) (hp : (G.take k).Pairwise farG) (hf : ∀ i o, i < k → G[i]? = some o → farG o g) : (G.take (k + 1)).Pairwise farG := by
  rw [take_succ' G k g h, List.pairwise_append]
  refine ⟨hp, List.pairwise_singleton _ _, fun a ha b hb => ?_⟩
  simp at hb
  subst hb
  obtain ⟨i, hi, rfl⟩ := List.mem_take_iff_getElem.1 ha
  exact hf i _ (by omega) (List.getElem?_eq_getElem _)
theorem cap_le {P : Program} {w : World} {r : Reach} {base : Nat} {t e : TypeId} {p : Option Addr} {n c : Nat} (ht : P.underlying t = some (.slice e)) (h : Value.okWide P w r base t (.slice p n c)) : n ≤ c := by
  unfold Value.okWide at h
  rw [ht] at h
  simp only [] at h
  unfold Cell.okWide at h
  rw [ht] at h
  simp only [] at h
  unfold Cell.ok at h
  rw [ht] at h
  match p, n, c, h with
  | none, 0, 0, _ => exact Nat.le_refl _
  | some a, _, _, h => exact h.1
/-- what apart gives back -/
def ApartQ (w : World) (G : List Gr) (e : Ending) (w' : World) : Prop := ∃ r, e = .returned (.bool r) ∧ Chg [] w w' ∧ (r = true → goodG G)
set_option maxRecDepth 100000 in
set_option maxHeartbeats 1600000 in
theorem apart_any {w : World} {p : Option Addr} {b o n c : Nat} {G : List Gr} (hG : GrsAt w b o G) (hn : G.length = n) (hp : 0 < n → p = some ⟨b, o, none⟩) (hn6 : n < 1000000) (hcap : n ≤ c) :
    Calls Tryd.prog 11 #[.slice p n c] w (ApartQ w G) := by
  have HG := Lib.hid hG
  have HN := Lib.hid hn
  have HP := Lib.hid hp
  have HN6 := Lib.hid hn6
  clear hG hn hp hn6
  go_enter Tryd.func11, Tryd.ntmps11
  go_wp2_with fail
  go_loopw [9, 3, 4, 6] (fun i _ _ _ wr => ∃ k : Nat, k ≤ n ∧ i = .int .i64 k ∧ Chg [] w wr ∧ (G.take k).all okG = true ∧ (G.take k).Pairwise farG) (fun i _ _ _ _ => n - (intOf i).toNat)
  case atStart => exact ⟨0, by omega, rfl, Chg.refl _ _, rfl, List.Pairwise.nil⟩
  case round =>
    obtain ⟨k, hk, rfl, hch, hall, hpw⟩ := hrel
    have HC := Lib.hid hch
    have HALL := Lib.hid hall
    have HPW := Lib.hid hpw
    clear hch hall hpw
    by_cases hk2 : k < n
    · have HK := Lib.hid hk2
      have HW : Hid (wrap64 ((k : Int) + 1) = ((k + 1 : Nat) : Int)) := Lib.hid (wrap1 k (by have := HN6.out; omega))
      obtain ⟨g, hg⟩ : ∃ g, G[k]? = some g := ⟨_, List.getElem?_eq_getElem (by have := HN.out; omega)⟩
      obtain ⟨c0, c1, c2, l0, l1⟩ := HG.out.keep HC.out k g hg
      have ht := take_succ' G k g hg
      have HT := Lib.hid ht
      have HGK := Lib.hid hg
      have hpp := HP.out (by omega)
      subst hpp
      obtain ⟨st, sz, rt⟩ := g
      simp only [] at c0 c1 c2 l0 l1
      have HL0 := Lib.hid l0
      have HL1 := Lib.hid l1
      obtain ⟨A, hA⟩ : ∃ A, A = st % 4 := ⟨_, rfl⟩
      obtain ⟨M, hM⟩ : ∃ A, A = sz % 4 := ⟨_, rfl⟩
      obtain ⟨T, hT⟩ : ∃ A, A = st + sz := ⟨_, rfl⟩
      have eA : (st : Int) % 4 = (A : Int) := by omega
      have eM : (sz : Int) % 4 = (M : Int) := by omega
      have w1 : IntKind.u64.wrap (st : Int) = (st : Int) := by rw [u64w]; omega
      have w2 : IntKind.u64.wrap (sz : Int) = (sz : Int) := by rw [u64w]; omega
      have w3 : IntKind.u64.wrap ((st : Int) + (sz : Int)) = (T : Int) := by rw [u64w]; omega
      have HA := Lib.hid hA
      have HM := Lib.hid hM
      have HTT := Lib.hid hT
      have dk : decide ((k : Int) < (n : Int)) = true := by rw [decide_eq_true_eq]; omega
      have hkI : (k : Int) < (n : Int) := by omega
      clear ht hg l0 l1 hA hM hT hk2
      obtain ⟨b1, hb1⟩ : ∃ b1, b1 = wr.heap.size := ⟨_, rfl⟩
      obtain ⟨Y, hY⟩ : ∃ V, V = wr.alloc (.cells #[.int .u32 (st : Int), .int .u32 (sz : Int), .int .i64 rt] 36) := ⟨_, rfl⟩
      have ry : Y.row? b1 = some #[.int .u32 (st : Int), .int .u32 (sz : Int), .int .i64 rt] := by rw [hY]; exact row_alloc_at _ _ _ _ hb1
      have HCY : Hid (Chg [] w Y) := Lib.hid (by rw [hY]; exact HC.out.alloc _)
      have y0 : Y.cell? ⟨b1, 0, none⟩ = some (.int .u32 (st : Int)) := by rw [row_cell ry]; rfl
      have y1 : Y.cell? ⟨b1, 1, none⟩ = some (.int .u32 (sz : Int)) := by rw [row_cell ry]; rfl
      have y2 : Y.cell? ⟨b1, 2, none⟩ = some (.int .i64 rt) := by rw [row_cell ry]; rfl
      have HRY := Lib.hid ry
      have HB1 := Lib.hid hb1
      have HY := Lib.hid hY
      clear ry hb1 hY
      go_upto_region 4 with (fail)
      rw [← HB1.out, ← HY.out]
      clear c0 c1 c2 HB1 HY
      by_cases q0 : A = 0
      rotate_left
      · have n0 : ((A : Int) != 0) = true := by rw [bne_iff_ne]; omega
        go_wp2
        go_ret
        exact ⟨false, rfl, HCY.out, fun h => by cases h⟩
      have n0 : ((A : Int) != 0) = false := by rw [Bool.eq_false_iff]; simp; omega
      by_cases q1 : M = 0
      rotate_left
      · have n1 : ((M : Int) != 0) = true := by rw [bne_iff_ne]; omega
        go_wp2
        go_ret
        exact ⟨false, rfl, HCY.out, fun h => by cases h⟩
      have n1 : ((M : Int) != 0) = false := by rw [Bool.eq_false_iff]; simp; omega
      by_cases q2 : sz ≠ 0
      rotate_left
      · have n2 : ((sz : Int) == 0) = true := by rw [beq_iff_eq]; omega
        go_wp2
        go_ret
        exact ⟨false, rfl, HCY.out, fun h => by cases h⟩
      have n2 : ((sz : Int) == 0) = false := by rw [Bool.eq_false_iff]; simp; omega
      by_cases q3 : T ≤ 4294967296
      rotate_left
      · have n3 : decide ((4294967296 : Int) < (T : Int)) = true := by rw [decide_eq_true_eq]; omega
        go_wp2
        go_ret
        exact ⟨false, rfl, HCY.out, fun h => by cases h⟩
      have n3 : decide ((4294967296 : Int) < (T : Int)) = false := by rw [decide_eq_false_iff_not]; omega
      by_cases q4 : 1 ≤ rt
      rotate_left
      · have n4 : decide (rt < 1) = true := by rw [decide_eq_true_eq]; omega
        go_wp2
        go_ret
        exact ⟨false, rfl, HCY.out, fun h => by cases h⟩
      have n4 : decide (rt < 1) = false := by rw [decide_eq_false_iff_not]; omega
      by_cases q5 : rt ≤ 7
      rotate_left
      · have n5 : decide (7 < rt) = true := by rw [decide_eq_true_eq]; omega
        go_wp2
        go_ret
        exact ⟨false, rfl, HCY.out, fun h => by cases h⟩
      have n5 : decide (7 < rt) = false := by rw [decide_eq_false_iff_not]; omega
      have hok : okG ⟨st, sz, rt⟩ = true := by
        have := HA.out; have := HM.out; have := HTT.out
        simp only [okG, Bool.and_eq_true, decide_eq_true_eq]
        omega
      have HOK := Lib.hid hok
      have HQ2 := Lib.hid q2
      have HQ3 := Lib.hid q3
      have hkc : k ≤ c := by have := HK.out; omega
      clear hok
      go_wp2_with fail
      clear q0 q1 q2 q3 q4 q5 n0 n1 n2 n3 n4 n5 y0 y1 y2 eA eM w1 w2 w3
      go_loopw [53, 6] (fun j _ wr' => ∃ k2 : Nat, k2 ≤ k ∧ j = .int .i64 k2 ∧ Chg [] Y wr' ∧ ∀ i h, i < k2 → G[i]? = some h → farG h ⟨st, sz, rt⟩) (fun j _ _ => k - (intOf j).toNat)
      case atStart => exact ⟨0, by omega, rfl, Chg.refl _ _, fun i h hi => absurd hi (by omega)⟩
      case round =>
        obtain ⟨k2, hk2, rfl, hch2, hfar⟩ := hrel
        have HC2 := Lib.hid hch2
        have HFAR := Lib.hid hfar
        clear hch2 hfar
        by_cases hk3 : k2 < k
        · have HK3 := Lib.hid hk3
          have HW2 : Hid (wrap64 ((k2 : Int) + 1) = ((k2 + 1 : Nat) : Int)) := Lib.hid (wrap1 k2 (by have := HN6.out; have := HK.out; omega))
          obtain ⟨g, hg⟩ : ∃ g, G[k2]? = some g := ⟨_, List.getElem?_eq_getElem (by have := HN.out; have := HK.out; omega)⟩
          obtain ⟨c0, c1, c2, l0, l1⟩ := HG.out.keep (HCY.out.trans HC2.out) k2 g hg
          have hgok : okG g = true := List.all_eq_true.1 HALL.out g (List.mem_take_iff_getElem.2 ⟨k2, by have := HN.out; have := HK.out; omega, by rw [List.getElem?_eq_getElem (by have := HN.out; have := HK.out; omega)] at hg; exact Option.some.inj hg⟩)
          obtain ⟨f1, f2, f3, f4, -, -⟩ := okG_nat hgok
          have HGK2 := Lib.hid hg
          obtain ⟨s2, z2, r2⟩ := g
          simp only [] at c0 c1 c2 l0 l1 f1 f2 f3 f4
          have HAP : Hid (∀ w, Calls Tryd.prog 20 #[.int .i64 (st : Int), .int .i64 (sz : Int), .int .i64 (s2 : Int), .int .i64 (z2 : Int)] w fun e w' => e = .returned (.bool (decide (st + sz ≤ s2 ∨ s2 + z2 ≤ st))) ∧ w' = w) := Lib.hid fun w => apart_two st sz s2 z2 (by have := HL0.out; have := HL1.out; omega) (by omega) HQ2.out f3 w
          have dk2 : decide ((k2 : Int) < (k : Int)) = true := by rw [decide_eq_true_eq]; omega
          have hkI2 : (k2 : Int) < (k : Int) := by omega
          have ws1 : wrap64 (st : Int) = (st : Int) := IntWalk.wrap64_in _ ⟨by omega, by have := HL0.out; omega⟩
          have ws2 : wrap64 (sz : Int) = (sz : Int) := IntWalk.wrap64_in _ ⟨by omega, by have := HL1.out; omega⟩
          have ws3 : wrap64 (s2 : Int) = (s2 : Int) := IntWalk.wrap64_in _ ⟨by omega, by omega⟩
          have ws4 : wrap64 (z2 : Int) = (z2 : Int) := IntWalk.wrap64_in _ ⟨by omega, by omega⟩
          obtain ⟨b2, hb2⟩ : ∃ b1, b1 = wr.heap.size := ⟨_, rfl⟩
          obtain ⟨Z, hZ⟩ : ∃ V, V = wr.alloc (.cells #[.int .u32 (s2 : Int), .int .u32 (z2 : Int), .int .i64 r2] 36) := ⟨_, rfl⟩
          have rz : Z.row? b2 = some #[.int .u32 (s2 : Int), .int .u32 (z2 : Int), .int .i64 r2] := by rw [hZ]; exact row_alloc_at _ _ _ _ hb2
          have hcz : Chg [] Y Z := by rw [hZ]; exact HC2.out.alloc _
          have rzy : Z.row? b1 = some #[.int .u32 (st : Int), .int .u32 (sz : Int), .int .i64 rt] := by rw [hcz.row (row_lt HRY.out) (by simp)]; exact HRY.out
          have y0 : Z.cell? ⟨b1, 0, none⟩ = some (.int .u32 (st : Int)) := by rw [row_cell rzy]; rfl
          have y1 : Z.cell? ⟨b1, 1, none⟩ = some (.int .u32 (sz : Int)) := by rw [row_cell rzy]; rfl
          have z0 : Z.cell? ⟨b2, 0, none⟩ = some (.int .u32 (s2 : Int)) := by rw [row_cell rz]; rfl
          have z1 : Z.cell? ⟨b2, 1, none⟩ = some (.int .u32 (z2 : Int)) := by rw [row_cell rz]; rfl
          have HCZ := Lib.hid hcz
          have HB2 := Lib.hid hb2
          have HZ := Lib.hid hZ
          clear rz rzy hcz hb2 hZ hg hgok f1 f2 f3 f4 l0 l1 hk3
          go_upto_region 9 with (fail)
          rw [← HB2.out, ← HZ.out]
          clear c0 c1 c2 HB2 HZ
          go_wp2_with fail
          refine (HAP.out _).mono ?_
          rintro e w' ⟨rfl, rfl⟩
          by_cases hfr : st + sz ≤ s2 ∨ s2 + z2 ≤ st
          · rw [decide_eq_true hfr]
            have HFR := Lib.hid hfr
            clear hfr
            go_wp2_with fail
            refine ⟨⟨k2 + 1, HK3.out, by rw [HW2.out], HCZ.out, fun i h hi hgi => ?_⟩, by rw [HW2.out]; simp only [intOf, Int.toNat_natCast]; have := HK3.out; omega⟩
            rcases Nat.lt_or_ge i k2 with hlt | hge
            · exact HFAR.out i h hlt hgi
            · obtain rfl : i = k2 := by omega
              rw [HGK2.out] at hgi
              injection hgi with hgi
              subst hgi
              exact HFR.out.symm
          · rw [decide_eq_false hfr]
            clear hfr
            go_wp2
            go_ret
            exact ⟨false, rfl, HCY.out.trans HCZ.out, fun h => by cases h⟩
        · obtain rfl : k2 = k := by omega
          have dk2 : decide ((k2 : Int) < (k2 : Int)) = false := by simp
          have HALL2 : Hid ((G.take (k2 + 1)).all okG = true) := Lib.hid (by rw [HT.out, List.all_append, HALL.out]; simp [HOK.out])
          have HPW2 : Hid ((G.take (k2 + 1)).Pairwise farG) := Lib.hid (pair_take G k2 _ HGK.out HPW.out HFAR.out)
          go_wp2
          case roundEnd => exact ⟨⟨k2 + 1, HK.out, by rw [HW.out], HCY.out.trans HC2.out, HALL2.out, HPW2.out⟩, by rw [HW.out]; simp only [intOf, Int.toNat_natCast]; have := HK.out; omega⟩
    · obtain rfl : k = n := by omega
      have hfull : G.take k = G := List.take_of_length_le (by have := HN.out; omega)
      have dk : decide ((k : Int) < (k : Int)) = false := by simp
      have HA1 := HALL.out
      have HP1 := HPW.out
      rw [hfull] at HA1 HP1
      have HGO : Hid (goodG G) := Lib.hid ⟨HA1, HP1⟩
      clear HA1 HP1 hfull HALL HPW
      go_wp2
      go_ret
      exact ⟨true, rfl, HC.out, fun _ => HGO.out⟩
end Go.Proofs.L
