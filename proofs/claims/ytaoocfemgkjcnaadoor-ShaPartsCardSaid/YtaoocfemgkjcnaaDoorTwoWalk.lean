/- Proved here: lemmas and contracts (TwoWalk) for the laws of this seat, for all values of the stated types; no further condition. -/
import Derived.Test.YtaoocfemgkjcnaaDoorFit
import Derived.Test.YtaoocfemgkjcnaaDoorEq
open Go Go.RowKit Go.Lib
namespace Go.Proofs.L
attribute [local irreducible] wpT
theorem natL_cells (k : IntKind) (L : List Nat) : (natL k L).toArray = cellsK k (L.map fun n : Nat => (n : Int)) := by
  unfold natL cellsK
  simp
theorem map_inj {L M : List Nat} : (L.map (fun n : Nat => (n : Int)) = M.map fun n : Nat => (n : Int)) ↔ L = M :=
  ⟨fun h => by
    have := congrArg (List.map Int.toNat) h
    simpa [List.map_map, Function.comp_def] using this, fun h => by rw [h]⟩
theorem eq24 (L M : List Nat) (w : World) (h1 : L.length = 32) (h2 : M.length = 32) : (Op.equalIn 10000 24 (.agg (natL .u8 L).toArray) (.agg (natL .u8 M).toArray)).run Tryd.prog w = .ok (decide (L = M)) w := by
  rw [natL_cells, natL_cells]
  have h := run_equalIn_ints (P := Tryd.prog) w 9998 24 5 32 .u8 (L.map fun n : Nat => (n : Int)) (M.map fun n : Nat => (n : Int)) Tryd.underlying24 Tryd.underlying5 (by kernel_rfl) (by simp [h1]) (by simp [h2])
  simp only [map_inj] at h
  exact h
theorem sumN_len (s : St) : (sumN s).length = 32 := outN_len _ _
theorem take_step (L : List Nat) (i j m0 m1 n : Nat) (hn : L.length = n) (hij : i ≤ j) (h0 : m0 = min i n) (h1 : m1 = min j n) : L.take i ++ (L.drop m0).take (m1 - m0) = L.take j := by
  subst h0 h1 hn
  by_cases h : i ≤ L.length
  · rw [Nat.min_eq_left h]
    rw [← List.take_append_drop i (L.take j), List.take_take, Nat.min_eq_left hij, List.drop_take]
    congr 1
    by_cases h2 : j ≤ L.length
    · rw [Nat.min_eq_left h2]
    · rw [Nat.min_eq_right (by omega), List.take_of_length_le (by simp), List.take_of_length_le (by simp; omega)]
  · rw [Nat.min_eq_right (by omega), Nat.min_eq_right (by omega), Nat.sub_self, List.take_zero, List.append_nil, List.take_of_length_le (by omega), List.take_of_length_le (by omega)]
theorem BytesAt.part {w : World} {b o : Nat} {L : List Nat} (h : BytesAt w b o L) (m k : Nat) : BytesAt w b (o + m) ((L.drop m).take k) := fun j c hj => by
  rw [List.getElem?_take] at hj
  split at hj
  · rw [List.getElem?_drop] at hj
    rw [Nat.add_assoc]
    exact h _ _ hj
  · cases hj
theorem part_ptr {p : Option Addr} {b o m k c : Nat} (hp : 0 < k → p = some ⟨b, o, none⟩) (hk : k ≤ c) (m1 : Nat) (h : 0 < m1 - m) (hm : m1 ≤ k) : (if c = m then p else p.map (·.add (m * 1))) = some ⟨b, o + m, none⟩ := by
  rw [if_neg (by omega), hp (by omega), Nat.mul_one]
  show some (Addr.add _ _) = _
  rw [addr_add]
theorem write_piece {w : World} {X ba oa m0 m1 j j2 ka c : Nat} {P0 : Option Addr} {L : List Nat} (hX : Hs w X (writeS s0 (L.take j)).h (writeS s0 (L.take j)).p (writeS s0 (L.take j)).n) (hB : BytesAt w ba oa L) (hk : L.length = ka) (hka : ka < 1000000)
    (h0 : m0 = min j ka) (h1 : m1 = min j2 ka) (hjj : j ≤ j2) (hp : 0 < m1 - m0 → P0 = some ⟨ba, oa + m0, none⟩) (hne : 0 < ka → ba ≠ X) (hL : LaidOk w) (hX0 : X ≠ 0) :
    Calls Tryd.prog 10 #[.pointer (some ⟨X, 0, none⟩), .slice P0 (m1 - m0) c] w fun e w' => e = .returned (.tuple #[]) ∧ Hs w' X (writeS s0 (L.take j2)).h (writeS s0 (L.take j2)).p (writeS s0 (L.take j2)).n ∧ Chg [X] w w' := by
  have hl : ((L.drop m0).take (m1 - m0)).length = m1 - m0 := by rw [List.length_take, List.length_drop, hk]; omega
  refine (write_any (L := (L.drop m0).take (m1 - m0)) hX (hB.part m0 (m1 - m0)) hl hp (fun h => hne (by omega)) (by omega) (by rw [s0_n, List.length_take, hk]; omega) hL hX0).mono ?_
  rintro e w' ⟨rfl, h2, h3⟩
  rw [← writeS_app, take_step L j j2 m0 m1 ka hk hjj h0 h1] at h2
  exact ⟨rfl, h2, h3⟩
theorem Hs.keep {E : List Nat} {w w' : World} {b : Nat} {h p : List Nat} {n : Nat} (H : Hs w b h p n) (hc : Chg E w w') (hE : b ∉ E) : Hs w' b h p n := ⟨by rw [hc.row (row_lt H.row) hE]; exact H.row, H.hl, H.pl, H.hb, H.pb, H.nb⟩
theorem chg_wide {E F : List Nat} {w w' : World} (h : Chg E w w') (hs : ∀ g ∈ E, g ∈ F) : Chg F w w' := ⟨h.os, h.tape, h.output, h.size, fun k hk hE => h.block k hk fun hm => hE (hs k hm)⟩
theorem BytesAt.keep2 {E : List Nat} {w w' : World} {b o k : Nat} {L : List Nat} (h : BytesAt w b o L) (hc : Chg E w w') (hk : L.length = k) (hE : 0 < k → b ∉ E) : BytesAt w' b o L := fun j c hj => by
  have := (List.getElem?_eq_some_iff.1 hj).1
  obtain ⟨h1, h2⟩ := h j c hj
  exact ⟨by rw [World.cell?_of_block (w := w) (hc.block b (World.block_lt_of_cell? w _ h1) (hE (by omega)))]; exact h1, h2⟩
theorem min_if (a b : Nat) : (if b < a then (b : Int) else (a : Int)) = ((min a b : Nat) : Int) := by split <;> omega
set_option maxRecDepth 100000 in
set_option maxHeartbeats 1600000 in
theorem two_walk {W : World} {pa pb : Option Addr} {ba oa ka ca bb ob kb cb : Nat} {La Lb : List Nat} {z : Int} (hA : BytesAt W ba oa La) (hka : La.length = ka) (hpa : 0 < ka → pa = some ⟨ba, oa, none⟩) (hca : ka ≤ ca)
    (hB : BytesAt W bb ob Lb) (hkb : Lb.length = kb) (hpb : 0 < kb → pb = some ⟨bb, ob, none⟩) (hcb : kb ≤ cb) (hL : LaidOk W) (hw0 : 0 < W.heap.size) (hz : -9223372036854775808 ≤ z ∧ z < 9223372036854775808) :
    Calls Tryd.prog 5 #[.slice pa ka ca, .slice pb kb cb, .int .i64 z] W fun e w' => e = .returned (.bool true) ∧ Chg [] W w' := by
  have HA := Lib.hid hA
  have HKA := Lib.hid hka
  have HPA := Lib.hid hpa
  have HCA := Lib.hid hca
  have HB := Lib.hid hB
  have HKB := Lib.hid hkb
  have HPB := Lib.hid hpb
  have HCB := Lib.hid hcb
  have HL := Lib.hid hL
  have HW0 := Lib.hid hw0
  have HZ := Lib.hid hz
  clear hA hka hpa hca hB hkb hpb hcb hL hw0 hz
  go_enter Tryd.func5, Tryd.ntmps5
  go_wp2_with fail
  refine (fit_any HL.out HW0.out).mono ?_
  rintro e w1 ⟨rfl, hc1⟩
  have HC1 := Lib.hid hc1
  clear hc1
  by_cases hbig : ka > 500 ∨ kb > 500
  · by_cases h1 : ka > 500
    · have i1 : (ka : Int) > 500 := by omega
      have i2 : (500 : Int) < (ka : Int) := by omega
      clear hbig
      go_wp2
      go_ret
      exact ⟨rfl, HC1.out⟩
    · have h2 : kb > 500 := by omega
      have i1 : ¬ (ka : Int) > 500 := by omega
      have i2 : ¬ (500 : Int) < (ka : Int) := by omega
      have i3 : (500 : Int) < (kb : Int) := by omega
      clear hbig
      go_wp2
      go_ret
      exact ⟨rfl, HC1.out⟩
  · have h1 : ¬ ka > 500 := by omega
    have h2 : ¬ kb > 500 := by omega
    have i2 : ¬ (500 : Int) < (ka : Int) := by omega
    have i3 : ¬ (500 : Int) < (kb : Int) := by omega
    have g2 : ¬ 500 < ka := by omega
    have g3 : ¬ 500 < kb := by omega
    obtain ⟨z1, hz1⟩ : ∃ z1, z1 = z.tmod 50 := ⟨_, rfl⟩
    obtain ⟨z2, hz2⟩ : ∃ z2, z2 = (z1 + 50).tmod 50 := ⟨_, rfl⟩
    have hz1b : -50 < z1 ∧ z1 < 50 := by rw [hz1]; exact ⟨Int.lt_tmod_of_pos z (by decide), Int.tmod_lt_of_pos z (by decide)⟩
    have hz2b : 0 ≤ z2 ∧ z2 < 50 := by rw [hz2, Int.tmod_eq_emod_of_nonneg (by omega)]; omega
    obtain ⟨st, hst⟩ : ∃ st : Nat, st = (z2 + 1).toNat := ⟨_, rfl⟩
    have q1 : wrap64 (z1 + 50) = z1 + 50 := IntWalk.wrap64_in _ ⟨by omega, by omega⟩
    have q2 : wrap64 (z2 + 1) = (st : Int) := by rw [IntWalk.wrap64_in _ ⟨by omega, by omega⟩]; omega
    have q3 := hz1.symm
    have q4 := hz2.symm
    have HQ2 := Lib.hid q2
    have HK0 : Hid (ka ≤ 500 ∧ kb ≤ 500) := Lib.hid ⟨by omega, by omega⟩
    have HST : Hid (1 ≤ st ∧ st ≤ 50) := Lib.hid ⟨by omega, by omega⟩
    clear q2 hz1 hz2 hz1b hz2b hst hbig h1 h2
    go_wp2_with fail
    rw [HQ2.out]
    refine (new_any w1).mono ?_
    rintro e w2 ⟨rfl, hh2, hc2⟩
    obtain ⟨X, hX⟩ : ∃ X, X = w1.heap.size := ⟨_, rfl⟩
    rw [← hX] at hh2 ⊢
    have HX := Lib.hid hX
    have HX2 := Lib.hid hh2
    have HC2 := Lib.hid hc2
    clear hX hh2 hc2 q1 q3 q4 g2 g3 i2 i3
    go_wp2_with fail
    refine (new_any w2).mono ?_
    rintro e w3 ⟨rfl, hh3, hc3⟩
    obtain ⟨Y, hY⟩ : ∃ Y, Y = w2.heap.size := ⟨_, rfl⟩
    rw [← hY] at hh3 ⊢
    have hXY : X < Y := by rw [hY]; exact row_lt HX2.out.row
    have hx3 : Hs w3 X s0.h s0.p s0.n := ⟨by rw [hc3.row (row_lt HX2.out.row) (by simp)]; exact HX2.out.row, HX2.out.hl, HX2.out.pl, HX2.out.hb, HX2.out.pb, HX2.out.nb⟩
    have HX3 := Lib.hid hx3
    have HY3 := Lib.hid hh3
    have HXY := Lib.hid hXY
    have HC3 : Hid (Chg [] W w3) := Lib.hid ((HC1.out.trans HC2.out).trans hc3)
    have HXW : Hid (W.heap.size ≤ X) := Lib.hid (by have := HX.out; have := HC1.out.size; omega)
    clear hY hh3 hc3 hXY hx3 HX2
    have HK5 : Hid (ka < 1000000 ∧ kb < 1000000) := Lib.hid (by have := HK0.out; omega)
    have HKK := HK0
    have HBA := Lib.hid (HA.out.keep HC3.out (by simp))
    have HBB := Lib.hid (HB.out.keep HC3.out (by simp))
    have HLL := Lib.hid (HL.out.keep HC3.out (by simp))
    have HX0 : Hid (X ≠ 0 ∧ Y ≠ 0 ∧ 0 ∉ [X, Y]) := Lib.hid (by have := HXW.out; have := HW0.out; have := HXY.out; refine ⟨by omega, by omega, ?_⟩; simp; omega)
    have HNX : Hid (0 < ka → ba ≠ X) := Lib.hid (fun h => by have := HA.out.lt HKA.out h; have := HXW.out; omega)
    have HNY : Hid (0 < kb → bb ≠ Y) := Lib.hid (fun h => by have := HB.out.lt HKB.out h; have := HXW.out; have := HXY.out; omega)
    have HBX : Hid ((0 < ka → ba ∉ [X, Y]) ∧ (0 < kb → bb ∉ [X, Y])) := Lib.hid ⟨fun h => by have := HA.out.lt HKA.out h; have := HXW.out; have := HXY.out; simp; omega, fun h => by have := HB.out.lt HKB.out h; have := HXW.out; have := HXY.out; simp; omega⟩
    go_wp2_with fail
    go_loopw [9, 10] (fun i k wr => ∃ j : Nat, j ≤ 600 ∧ i = .int .i64 j ∧ k = .int .i64 j ∧ Hs wr X (writeS s0 (La.take j)).h (writeS s0 (La.take j)).p (writeS s0 (La.take j)).n ∧ Hs wr Y (writeS s0 (Lb.take j)).h (writeS s0 (Lb.take j)).p (writeS s0 (Lb.take j)).n ∧ Chg [X, Y] w3 wr) (fun i _ _ => 600 - (intOf i).toNat)
    case atStart => exact ⟨0, by omega, rfl, rfl, HX3.out, HY3.out, Chg.refl _ _⟩
    case round =>
      obtain ⟨j, hj, rfl, rfl, hsx, hsy, hch⟩ := hrel
      have HSX := Lib.hid hsx
      have HSY := Lib.hid hsy
      have HCH := Lib.hid hch
      have HJ := Lib.hid hj
      clear hsx hsy hch hj
      by_cases hgo : j < ka ∨ j < kb
      · obtain ⟨j2, hj2⟩ : ∃ j2, j2 = j + st := ⟨_, rfl⟩
        obtain ⟨m0, hm0⟩ : ∃ m, m = min j ka := ⟨_, rfl⟩
        obtain ⟨m1, hm1⟩ : ∃ m, m = min j2 ka := ⟨_, rfl⟩
        obtain ⟨n0, hn0⟩ : ∃ m, m = min j kb := ⟨_, rfl⟩
        obtain ⟨n1, hn1⟩ : ∃ m, m = min j2 kb := ⟨_, rfl⟩
        have hka5 : ka ≤ 500 := by omega
        have hkb5 : kb ≤ 500 := by omega
        have b1 : m0 ≤ m1 := by have := HST.out; omega
        have b2 : m1 ≤ ca := by have := HCA.out; omega
        have b3 : n0 ≤ n1 := by have := HST.out; omega
        have b4 : n1 ≤ cb := by have := HCB.out; omega
        have hjs : (j : Int) + (st : Int) < 1000 := by have := HST.out; have := HJ.out; omega
        have hj2I : (j : Int) + (st : Int) = (j2 : Int) := by omega
        have HM0 := Lib.hid hm0
        have HM1 := Lib.hid hm1
        have HN0 := Lib.hid hn0
        have HN1 := Lib.hid hn1
        have HJ2 := Lib.hid hj2
        have HGO := Lib.hid hgo
        have f0 : (if ka < j then (ka : Int) else (j : Int)) = (m0 : Int) := by rw [hm0]; exact min_if j ka
        have f1 : (if ka < j2 then (ka : Int) else (j2 : Int)) = (m1 : Int) := by rw [hm1]; exact min_if j2 ka
        have f2 : (if kb < j then (kb : Int) else (j : Int)) = (n0 : Int) := by rw [hn0]; exact min_if j kb
        have f3 : (if kb < j2 then (kb : Int) else (j2 : Int)) = (n1 : Int) := by rw [hn1]; exact min_if j2 kb
        have HP0 : Hid (0 < m1 - m0 → (if ca = m0 then pa else pa.map fun x => x.add m0) = some ⟨ba, oa + m0, none⟩) := Lib.hid (fun h => by have := part_ptr HPA.out HCA.out m1 h (by rw [hm1]; exact Nat.min_le_right _ _); rwa [Nat.mul_one] at this)
        have HQ0 : Hid (0 < n1 - n0 → (if cb = n0 then pb else pb.map fun x => x.add n0) = some ⟨bb, ob + n0, none⟩) := Lib.hid (fun h => by have := part_ptr HPB.out HCB.out n1 h (by rw [hn1]; exact Nat.min_le_right _ _); rwa [Nat.mul_one] at this)
        obtain ⟨P0, hP0⟩ : ∃ P, P = (if ca = m0 then pa else pa.map fun x => x.add m0) := ⟨_, rfl⟩
        obtain ⟨Q0, hQ0⟩ : ∃ P, P = (if cb = n0 then pb else pb.map fun x => x.add n0) := ⟨_, rfl⟩
        rw [← hP0] at HP0
        rw [← hQ0] at HQ0
        have f4 := hP0.symm
        have f5 := hQ0.symm
        have ew : wrap64 ((j : Int) + (st : Int)) = (j2 : Int) := by rw [IntWalk.wrap64_in _ ⟨by omega, by omega⟩]; exact hj2I
        have HEW := Lib.hid ew
        clear hm0 hm1 hn0 hn1 hj2 hgo hP0 hQ0 hjs hj2I hka5 hkb5
        by_cases hlt : j < ka
        · have dI : (j : Int) < (ka : Int) := by omega
          go_upto_region 10 with (fail)
          clear hlt dI
          go_wp2_with fail
          refine (write_piece HSX.out (HBA.out.keep2 HCH.out HKA.out HBX.out.1) HKA.out HK5.out.1 HM0.out HM1.out (by have := HJ2.out; omega) HP0.out HNX.out (HLL.out.keep HCH.out HX0.out.2.2) HX0.out.1).mono ?_
          rintro e v1 ⟨rfl, hv1, hcv1⟩
          have HV1 := Lib.hid hv1
          have HCV1 := Lib.hid hcv1
          have HCH1 : Hid (Chg [X, Y] w3 v1) := Lib.hid (HCH.out.trans (chg_wide hcv1 (by simp)))
          have HSY1 := Lib.hid (HSY.out.keep hcv1 (by rw [List.mem_singleton]; exact fun h => by have := HXY.out; omega))
          clear hv1 hcv1
          go_wp2_with fail
          refine (write_piece HSY1.out (HBB.out.keep2 HCH1.out HKB.out HBX.out.2) HKB.out HK5.out.2 HN0.out HN1.out (by have := HJ2.out; omega) HQ0.out HNY.out (HLL.out.keep HCH1.out HX0.out.2.2) HX0.out.2.1).mono ?_
          rintro e v2 ⟨rfl, hv2, hcv2⟩
          have HV2 := Lib.hid hv2
          have HV3 := Lib.hid (HV1.out.keep hcv2 (by rw [List.mem_singleton]; exact fun h => by have := HXY.out; omega))
          have HCH2 : Hid (Chg [X, Y] w3 v2) := Lib.hid (HCH1.out.trans (chg_wide hcv2 (by simp)))
          clear hv2 hcv2
          go_wp2
          case roundEnd =>
            rw [HEW.out]
            exact ⟨⟨j2, by have := HJ2.out; have := HGO.out; have := HST.out; have := HKK.out; omega, rfl, rfl, HV3.out, HV2.out, HCH2.out⟩, by simp only [intOf, Int.toNat_natCast]; have := HJ2.out; have := HGO.out; have := HST.out; have := HKK.out; omega⟩
        · have hlt2 : j < kb := by have := HGO.out; omega
          have dI : ¬ (j : Int) < (ka : Int) := by omega
          have dK : (j : Int) < (kb : Int) := by omega
          go_upto_region 10 with (fail)
          clear hlt hlt2 dI dK
          go_wp2_with fail
          refine (write_piece HSX.out (HBA.out.keep2 HCH.out HKA.out HBX.out.1) HKA.out HK5.out.1 HM0.out HM1.out (by have := HJ2.out; omega) HP0.out HNX.out (HLL.out.keep HCH.out HX0.out.2.2) HX0.out.1).mono ?_
          rintro e v1 ⟨rfl, hv1, hcv1⟩
          have HV1 := Lib.hid hv1
          have HCV1 := Lib.hid hcv1
          have HCH1 : Hid (Chg [X, Y] w3 v1) := Lib.hid (HCH.out.trans (chg_wide hcv1 (by simp)))
          have HSY1 := Lib.hid (HSY.out.keep hcv1 (by rw [List.mem_singleton]; exact fun h => by have := HXY.out; omega))
          clear hv1 hcv1
          go_wp2_with fail
          refine (write_piece HSY1.out (HBB.out.keep2 HCH1.out HKB.out HBX.out.2) HKB.out HK5.out.2 HN0.out HN1.out (by have := HJ2.out; omega) HQ0.out HNY.out (HLL.out.keep HCH1.out HX0.out.2.2) HX0.out.2.1).mono ?_
          rintro e v2 ⟨rfl, hv2, hcv2⟩
          have HV2 := Lib.hid hv2
          have HV3 := Lib.hid (HV1.out.keep hcv2 (by rw [List.mem_singleton]; exact fun h => by have := HXY.out; omega))
          have HCH2 : Hid (Chg [X, Y] w3 v2) := Lib.hid (HCH1.out.trans (chg_wide hcv2 (by simp)))
          clear hv2 hcv2
          go_wp2
          case roundEnd =>
            rw [HEW.out]
            exact ⟨⟨j2, by have := HJ2.out; have := HGO.out; have := HST.out; have := HKK.out; omega, rfl, rfl, HV3.out, HV2.out, HCH2.out⟩, by simp only [intOf, Int.toNat_natCast]; have := HJ2.out; have := HGO.out; have := HST.out; have := HKK.out; omega⟩
      · have n1 : ¬ j < ka := by omega
        have n2 : ¬ j < kb := by omega
        have dI : ¬ (j : Int) < (ka : Int) := by omega
        have dK : ¬ (j : Int) < (kb : Int) := by omega
        have tA : La.take j = La := List.take_of_length_le (by have := HKA.out; omega)
        have tB : Lb.take j = Lb := List.take_of_length_le (by have := HKB.out; omega)
        rw [tA] at HSX
        rw [tB] at HSY
        clear tA tB
        go_wp2_with fail
        refine (writeNil pa ka ca wr).mono ?_
        rintro e v0 ⟨rfl, hv0⟩
        subst hv0
        have HW1 : Hid (0 < W.heap.size ∧ W.heap.size ≤ v0.heap.size) := Lib.hid ⟨HW0.out, by have := HCH.out.size; have := HC3.out.size; omega⟩
        have HLV := Lib.hid (HLL.out.keep HCH.out HX0.out.2.2)
        have HAV := Lib.hid (HBA.out.keep2 HCH.out HKA.out HBX.out.1)
        have HBV := Lib.hid (HBB.out.keep2 HCH.out HKB.out HBX.out.2)
        have HD1 : Hid (∀ w, (Op.equalIn 10000 24 (.agg (natL .u8 (sumN (writeS s0 La))).toArray) (.agg (natL .u8 (sumN (writeS s0 La))).toArray)).run Tryd.prog w = .ok true w) := Lib.hid (fun w => by rw [eq24 _ _ w (sumN_len _) (sumN_len _), decide_eq_true rfl])
        have HD2 : Hid (∀ w, (Op.equalIn 10000 24 (.agg (natL .u8 (sumN (writeS s0 Lb))).toArray) (.agg (natL .u8 (sumN (writeS s0 Lb))).toArray)).run Tryd.prog w = .ok true w) := Lib.hid (fun w => by rw [eq24 _ _ w (sumN_len _) (sumN_len _), decide_eq_true rfl])
        have HD3 : Hid (∀ w, (Op.equalIn 10000 24 (.agg z32) (.agg z32)).run Tryd.prog w = .ok true w) := Lib.hid (fun w => by rw [z32_nat, eq24 _ _ w (by simp) (by simp), decide_eq_true rfl])
        have HLA : Hid ((writeS s0 La).n < 900000000) := Lib.hid (by rw [s0_n]; have := HKK.out; have := HKA.out; omega)
        have HLB : Hid ((writeS s0 Lb).n < 900000000) := Lib.hid (by rw [s0_n]; have := HKK.out; have := HKB.out; omega)
        clear n1 n2 dI dK hgo
        go_wp2_with fail
        refine (sum_any HSX.out HLA.out HLV.out HX0.out.1).mono ?_
        rintro e v1 ⟨rfl, hc1⟩
        obtain ⟨DA, hDA⟩ : ∃ D, D = (natL .u8 (sumN (writeS s0 La))).toArray := ⟨_, rfl⟩
        have HDA := Lib.hid hDA
        rw [← hDA] at HD1 ⊢
        have HE1 := Lib.hid hc1
        clear hDA hc1
        go_wp2_with fail
        refine (of_any (HAV.out.keep HE1.out (by simp)) HKA.out HPA.out HK5.out.1 (HLV.out.keep HE1.out (by simp)) (by have := HE1.out.size; have := HW1.out; omega)).mono ?_
        rintro e v2 ⟨rfl, hc2⟩
        rw [← HDA.out]
        have HE2 := Lib.hid (HE1.out.trans hc2)
        have d1 := HD1.out
        clear hc2
        go_wp2_with fail
        clear d1
        refine (sum_any (HSY.out.keep HE2.out (by simp)) HLB.out (HLV.out.keep HE2.out (by simp)) HX0.out.2.1).mono ?_
        rintro e v3 ⟨rfl, hc3⟩
        obtain ⟨DB, hDB⟩ : ∃ D, D = (natL .u8 (sumN (writeS s0 Lb))).toArray := ⟨_, rfl⟩
        have HDB := Lib.hid hDB
        rw [← hDB] at HD2 ⊢
        have HE3 := Lib.hid (HE2.out.trans hc3)
        clear hDB hc3
        go_wp2_with fail
        refine (of_any (HBV.out.keep HE3.out (by simp)) HKB.out HPB.out HK5.out.2 (HLV.out.keep HE3.out (by simp)) (by have := HE3.out.size; have := HW1.out; omega)).mono ?_
        rintro e v4 ⟨rfl, hc4⟩
        rw [← HDB.out]
        have HE4 := Lib.hid (HE3.out.trans hc4)
        have d2 := HD2.out
        clear hc4
        go_wp2_with fail
        clear d2
        refine (sumNil v4).mono ?_
        rintro e v5 ⟨rfl, hc5⟩
        have HE5 := Lib.hid (HE4.out.trans hc5)
        clear hc5
        have d3 : ∀ w, (Op.equalIn 10000 24 (.agg z32) (.agg #[.int .u8 0, .int .u8 0, .int .u8 0, .int .u8 0, .int .u8 0, .int .u8 0, .int .u8 0, .int .u8 0, .int .u8 0, .int .u8 0, .int .u8 0, .int .u8 0, .int .u8 0, .int .u8 0, .int .u8 0, .int .u8 0, .int .u8 0, .int .u8 0, .int .u8 0, .int .u8 0, .int .u8 0, .int .u8 0, .int .u8 0, .int .u8 0, .int .u8 0, .int .u8 0, .int .u8 0, .int .u8 0, .int .u8 0, .int .u8 0, .int .u8 0, .int .u8 0])).run Tryd.prog w = .ok true w := HD3.out
        go_wp2
        go_ret
        exact ⟨rfl, chg_new HC3.out (HCH.out.trans (chg_wide HE5.out (by simp))) (by intro g hg; simp only [List.mem_cons, List.not_mem_nil, or_false] at hg; have := HXW.out; have := HXY.out; rcases hg with rfl | rfl <;> omega)⟩
end Go.Proofs.L
