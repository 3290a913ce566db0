/- Proved here: lemmas and contracts (RunsWalk) for the laws of this seat, for all values of the stated types; no further condition. -/
import Derived.Test.YtlceohlbpgcmpaaDoorBytesLaw
open Go Go.RowKit Go.Lib
namespace Go.Proofs.L
attribute [local irreducible] wpT
theorem wpT_skipE {P : Program} {Q : Exit → Act → World → Prop} {ops : Array Oper} {S : World → Prop} {r : List (Nat × Nat)} {a : Act} {w : World} {i c : Nat} {o : Oper} (d : Option Tmp) (ho : ops[i]? = some o) (hd : o.dst = d) (hw : Region.wanted o (yielded ops a.tmps) = false)
    (h : wpT P ops Q S r (a.put d undef) w) : wpT P ops Q S ((i, c) :: r) a w := by subst hd; exact wpT_skip ho hw h
theorem subw (a b : Nat) (h : b + 1 = a) (ha : a ≤ 4294967296) : IntKind.i64.wrap ((a : Int) - 1) = (b : Int) ∧ wrap64 ((a : Int) - 1) = (b : Int) :=
  ⟨by rw [IntKind.wrap_i64]; omega, by rw [IntWalk.wrap64_in _ ⟨by omega, by omega⟩]; omega⟩
theorem idw (a : Nat) (ha : a ≤ 4294967296) : IntKind.i64.wrap (a : Int) = (a : Int) ∧ wrap64 (a : Int) = (a : Int) :=
  ⟨by rw [IntKind.wrap_i64]; omega, IntWalk.wrap64_in _ ⟨by omega, by omega⟩⟩
set_option maxRecDepth 100000 in
set_option maxHeartbeats 3200000 in
theorem runs_walk {w : World} {p : Option Addr} {b o n c : Nat} {L : List Ent} (hE : EntsAt w b o L) (hn : L.length = n) (hp : 0 < n → p = some ⟨b, o, none⟩) (hmax : n ≤ 9223372036854775807) (hL : LaidOk w) (q : Nat) (hq : q < 4294967296) :
    Calls Tryd.prog 6 #[.slice p n c, .int .u32 (q : Int)] w fun e w' => e = .returned (.bool true) ∧ Chg [] w w' := by
  have HF := Lib.hid (fit_ok w hL)
  have HE := Lib.hid hE
  have HN := Lib.hid hn
  have HP := Lib.hid hp
  have HMX := Lib.hid hmax
  have HL := Lib.hid hL
  have HQ := Lib.hid hq
  clear hE hn hp hmax hL hq
  go_enter Tryd.func6, Tryd.ntmps6
  go_wp2_with fail
  refine HF.out.mono ?_
  rintro e w1 ⟨rfl, hc1⟩
  have HPL := Lib.hid (plain_any (c := c) (HE.out.keep hc1) HN.out HP.out HMX.out)
  have HC1 := Lib.hid hc1
  clear hc1
  go_wp2_with fail
  refine HPL.out.mono ?_
  rintro e w2 ⟨pr, rfl, hc2, h40⟩
  have HC2 := Lib.hid (HC1.out.trans hc2)
  cases pr with
  | false =>
    clear hc2 h40
    go_wp2
    go_ret
    exact ⟨rfl, HC2.out⟩
  | true =>
  have H40 := Lib.hid (h40 rfl)
  have HE2 := Lib.hid (HE.out.keep HC2.out)
  have HR := Lib.hid (runs_any (c := c) HE2.out HN.out HP.out H40.out (HL.out.keep HC2.out))
  clear hc2 h40 HPL HF
  go_wp2_with fail
  refine HR.out.mono ?_
  rintro e w3 ⟨hc3, M, v, hM, hs, hmk, rfl, hown⟩
  obtain ⟨R, hRd⟩ : ∃ R, R = runsTo (rngs 0 L) M (1 + 2 * L.length) := ⟨_, rfl⟩
  rw [← hRd] at hown
  have hok : RunsOk (rngs 0 L) R 4294967296 := by rw [hRd]; exact runs_all _ M _ (by omega) (by rw [show 1 + 2 * L.length + 1 = M.length by omega]; exact hs) hmk
  have hlen : R.length ≤ 100 := by rw [hRd]; have := runsTo_len (rngs 0 L) M (1 + 2 * L.length); have := H40.out; have := HN.out; omega
  have HC3 := Lib.hid (HC2.out.trans hc3)
  have HOK := Lib.hid hok
  have HE3 := Lib.hid (HE2.out.keep hc3)
  have HO := Lib.hid hown
  have HLEN := Lib.hid hlen
  have HRB : Hid (∀ x w', EntsAt w' b o L → Calls Tryd.prog 18 #[.slice p n c, .int .i64 ((x : Nat) : Int)] w' fun e w'' => e = .returned (.int .i64 (byteX (rngs 0 L) x)) ∧ w'' = w') := Lib.hid fun x w' h => rbyte_any h HN.out HP.out H40.out x
  clear hc3 hM hs hmk hown hRd hok hlen HR
  obtain ⟨pg, cap, rfl, hpg⟩ := own_form HO.out
  obtain ⟨m, hm⟩ : ∃ m, m = R.length := ⟨_, rfl⟩
  rw [← hm] at HO HLEN hpg ⊢
  have HM := Lib.hid hm
  have HPG := Lib.hid hpg
  clear hm hpg
  go_wp2_with fail
  go_loopw [18, 6, 7, 8] (fun i hv _ _ wr => ∃ k : Nat, k ≤ m ∧ i = .int .i64 k ∧ hv = .int .i64 (hasR (R.take k) q) ∧ Chg [] w3 wr) (fun i _ _ _ _ => m - (intOf i).toNat)
  case atStart => exact ⟨0, by omega, rfl, rfl, Chg.refl _ _⟩
  case round =>
    obtain ⟨k, hk, rfl, rfl, hch⟩ := hrel
    have HC := Lib.hid hch
    clear hch
    by_cases hk2 : k < m
    · have HK := Lib.hid hk2
      have HW : Hid (wrap64 ((k : Int) + 1) = ((k + 1 : Nat) : Int)) := Lib.hid (wrap1 k (by have := HLEN.out; omega))
      obtain ⟨g, rfl, hgb⟩ := HPG.out (by omega)
      obtain ⟨⟨f, t, r⟩, hx⟩ : ∃ x, R[k]? = some x := ⟨_, List.getElem?_eq_getElem (by have := HM.out; omega)⟩
      have HOw := Lib.hid (ownsRow_chg HO.out HC.out (by simp))
      have c0 : wr.cell? ⟨g, k * 3, none⟩ = some (.int .u64 (f : Int)) := cellsAt HOw.out hgb _ _ (by rw [show k * 3 = k * 3 + 0 by omega, flatR_get _ _ _ hx 0 (by omega)]; rfl)
      have c1 : wr.cell? ⟨g, k * 3 + 1, none⟩ = some (.int .u64 (t : Int)) := cellsAt HOw.out hgb _ _ (by rw [flatR_get _ _ _ hx 1 (by omega)]; rfl)
      have c2 : wr.cell? ⟨g, k * 3 + 2, none⟩ = some (.int .i64 r) := cellsAt HOw.out hgb _ _ (by rw [flatR_get _ _ _ hx 2 (by omega)]; rfl)
      obtain ⟨e1, e2, e3, e4⟩ := HOK.out.each _ (List.mem_of_getElem? hx)
      simp only [] at e1 e2 e3 e4
      have HX := Lib.hid hx
      have HGB := Lib.hid hgb
      have HE1 := Lib.hid e1
      have HE2' := Lib.hid e2
      have HE3' := Lib.hid e3
      have HE4 := Lib.hid e4
      have hkI : (k : Int) < (m : Int) := by omega
      have dk : decide ((k : Int) < (m : Int)) = true := by rw [decide_eq_true_eq]; omega
      obtain ⟨b1, hb1⟩ : ∃ b1, b1 = wr.heap.size := ⟨_, rfl⟩
      obtain ⟨Y, hY⟩ : ∃ V, V = wr.alloc (.cells #[.int .u64 (f : Int), .int .u64 (t : Int), .int .i64 r] 48) := ⟨_, rfl⟩
      have ry : Y.row? b1 = some #[.int .u64 (f : Int), .int .u64 (t : Int), .int .i64 r] := by rw [hY]; exact row_alloc_at _ _ _ _ hb1
      have hcY : Chg [] wr Y := by rw [hY]; exact (Chg.refl _ _).alloc _
      have HCY : Hid (Chg [] w3 Y) := Lib.hid (HC.out.trans hcY)
      have y0 : Y.cell? ⟨b1, 0, none⟩ = some (.int .u64 (f : Int)) := by rw [row_cell ry]; rfl
      have y1 : Y.cell? ⟨b1, 1, none⟩ = some (.int .u64 (t : Int)) := by rw [row_cell ry]; rfl
      have y2 : Y.cell? ⟨b1, 2, none⟩ = some (.int .i64 r) := by rw [row_cell ry]; rfl
      have HOY := Lib.hid (ownsRow_chg HOw.out hcY (by simp))
      have HEY : Hid (EntsAt Y b o L) := Lib.hid (HE3.out.keep HCY.out)
      have HB1 := Lib.hid hb1
      have HY := Lib.hid hY
      have hr0 : (r == 0) = false := by rw [Bool.eq_false_iff]; simp; exact e3
      have g1 : decide ((t : Int) ≤ (f : Int)) = false := by rw [decide_eq_false_iff_not]; omega
      have g2 : decide ((4294967296 : Int) < (t : Int)) = false := by rw [decide_eq_false_iff_not]; omega
      have n1 : ¬ t ≤ f := by omega
      have n2 : ¬ 4294967296 < t := by omega
      clear ry hcY hb1 hY hx hgb e3 e4 hk2
      go_upto_region 10 with (fail)
      rw [← HB1.out, ← HY.out]
      clear c0 c1 c2 HB1 HY hkI dk
      obtain ⟨Z, hZ⟩ : ∃ Z, Z = Y.drew := ⟨_, rfl⟩
      have HZ := Lib.hid hZ
      have HCZ : Hid (Chg [] w3 Z) := Lib.hid (by rw [hZ]; exact HCY.out.drew)
      have HEZ : Hid (EntsAt Z b o L) := Lib.hid (HE3.out.keep HCZ.out)
      have z0 : Z.cell? ⟨b1, 0, none⟩ = some (.int .u64 (f : Int)) := by rw [hZ]; exact y0
      have z1 : Z.cell? ⟨b1, 1, none⟩ = some (.int .u64 (t : Int)) := by rw [hZ]; exact y1
      have z2 : Z.cell? ⟨b1, 2, none⟩ = some (.int .i64 r) := by rw [hZ]; exact y2
      have Z0 := Lib.hid z0
      have Z1 := Lib.hid z1
      have Z2 := Lib.hid z2
      clear hZ z0 z1 z2
      go_cut [74] (fun v wx => v = .bool false ∧ wx = Z)
      case first =>
        by_cases k0 : k = 0
        · subst k0
          refine wp_region_C (fun w' => w'.cell? ⟨b1, 0, none⟩ = some (.int .u64 (f : Int)) ∧ w'.cell? ⟨b1, 1, none⟩ = some (.int .u64 (t : Int)) ∧ w'.cell? ⟨b1, 2, none⟩ = some (.int .i64 r)) [(0, 0), (1, 1), (2, 0), (3, 1), (4, 0), (5, 0), (6, 0), (7, 1), (8, 0), (9, 0), (10, 0), (11, 0), (12, 1), (13, 0), (14, 0), (15, 0), (16, 0), (17, 0), (18, 0), (19, 0), (20, 0), (21, 0), (22, 0), (23, 0), (24, 1), (25, 0), (26, 1), (27, 0), (28, 0), (29, 0), (30, 0), (31, 0), (32, 0), (33, 0), (34, 1), (35, 0), (36, 1), (37, 0), (38, 0), (39, 0), (40, 0), (41, 0), (42, 0), (43, 0), (44, 1), (45, 0), (46, 1), (47, 0), (48, 0), (49, 0), (50, 0), (51, 0)] rfl (by kernel_rfl) ?hSZ ?hTZ
          case hSZ => exact ⟨y0, y1, y2⟩
          refine wpT_pureD (v := ?_) (some 23) rfl rfl (by rfl) (fun w' => ?_) ?_
          rotate_left
          · (go_simp; try with_reducible rfl)
          try simp only [Act.put, List.setIfInBounds_toArray, List.set_cons_zero, List.set_cons_succ]
          refine wpT_readD (v := ?_) (some 24) rfl rfl (by rfl) (fun w' hw => ?_) ?_
          rotate_left
          · (obtain ⟨q0, q1, q2⟩ := hw; go_simp; try with_reducible rfl)
          try simp only [Act.put, List.setIfInBounds_toArray, List.set_cons_zero, List.set_cons_succ]
          refine wpT_pureD (v := ?_) (some 25) rfl rfl (by rfl) (fun w' => ?_) ?_
          rotate_left
          · (go_simp; try with_reducible rfl)
          try simp only [Act.put, List.setIfInBounds_toArray, List.set_cons_zero, List.set_cons_succ]
          refine wpT_readD (v := ?_) (some 26) rfl rfl (by rfl) (fun w' hw => ?_) ?_
          rotate_left
          · (obtain ⟨q0, q1, q2⟩ := hw; go_simp; try with_reducible rfl)
          try simp only [Act.put, List.setIfInBounds_toArray, List.set_cons_zero, List.set_cons_succ]
          refine wpT_pureD (v := ?_) (some 27) rfl rfl (by rfl) (fun w' => ?_) ?_
          rotate_left
          · (go_simp; try with_reducible rfl)
          try simp only [Act.put, List.setIfInBounds_toArray, List.set_cons_zero, List.set_cons_succ]
          refine wpT_pureD (v := ?_) (some 28) rfl rfl (by rfl) (fun w' => ?_) ?_
          rotate_left
          · (go_simp; try with_reducible rfl)
          try simp only [Act.put, List.setIfInBounds_toArray, List.set_cons_zero, List.set_cons_succ]
          refine wpT_pureD (v := ?_) (some 29) rfl rfl (by rfl) (fun w' => ?_) ?_
          rotate_left
          · (go_simp; try with_reducible rfl)
          try simp only [Act.put, List.setIfInBounds_toArray, List.set_cons_zero, List.set_cons_succ]
          refine wpT_readD (v := ?_) (some 30) rfl rfl (by rfl) (fun w' hw => ?_) ?_
          rotate_left
          · (obtain ⟨q0, q1, q2⟩ := hw; go_simp; try with_reducible rfl)
          try simp only [Act.put, List.setIfInBounds_toArray, List.set_cons_zero, List.set_cons_succ]
          refine wpT_pureD (v := ?_) (some 31) rfl rfl (by rfl) (fun w' => ?_) ?_
          rotate_left
          · (go_simp; try with_reducible rfl)
          try simp only [Act.put, List.setIfInBounds_toArray, List.set_cons_zero, List.set_cons_succ]
          refine wpT_pureD (v := ?_) (some 32) rfl rfl (by rfl) (fun w' => ?_) ?_
          rotate_left
          · (go_simp; try with_reducible rfl)
          try simp only [Act.put, List.setIfInBounds_toArray, List.set_cons_zero, List.set_cons_succ]
          refine wpT_pureD (v := ?_) (some 33) rfl rfl (by rfl) (fun w' => ?_) ?_
          rotate_left
          · (go_simp; try with_reducible rfl)
          try simp only [Act.put, List.setIfInBounds_toArray, List.set_cons_zero, List.set_cons_succ]
          refine wpT_pureD (v := ?_) (some 34) rfl rfl (by rfl) (fun w' => ?_) ?_
          rotate_left
          · (go_simp; try with_reducible rfl)
          try simp only [Act.put, List.setIfInBounds_toArray, List.set_cons_zero, List.set_cons_succ]
          refine wpT_readD (v := ?_) (some 35) rfl rfl (by rfl) (fun w' hw => ?_) ?_
          rotate_left
          · (obtain ⟨q0, q1, q2⟩ := hw; go_simp; try with_reducible rfl)
          try simp only [Act.put, List.setIfInBounds_toArray, List.set_cons_zero, List.set_cons_succ]
          refine wpT_pureD (v := ?_) (some 36) rfl rfl (by rfl) (fun w' => ?_) ?_
          rotate_left
          · (go_simp; try with_reducible rfl)
          try simp only [Act.put, List.setIfInBounds_toArray, List.set_cons_zero, List.set_cons_succ]
          refine wpT_pureD (v := ?_) (some 37) rfl rfl (by rfl) (fun w' => ?_) ?_
          rotate_left
          · (go_simp; try with_reducible rfl)
          try simp only [Act.put, List.setIfInBounds_toArray, List.set_cons_zero, List.set_cons_succ]
          refine wpT_pureD (v := ?_) (some 38) rfl rfl (by rfl) (fun w' => ?_) ?_
          rotate_left
          · (go_simp; try with_reducible rfl)
          try simp only [Act.put, List.setIfInBounds_toArray, List.set_cons_zero, List.set_cons_succ]
          refine wpT_pureD (v := ?_) (some 39) rfl rfl (by rfl) (fun w' => ?_) ?_
          rotate_left
          · (go_simp; try with_reducible rfl)
          try simp only [Act.put, List.setIfInBounds_toArray, List.set_cons_zero, List.set_cons_succ]
          refine wpT_pureD (v := ?_) (some 40) rfl rfl (by rfl) (fun w' => ?_) ?_
          rotate_left
          · (go_simp; try with_reducible rfl)
          try simp only [Act.put, List.setIfInBounds_toArray, List.set_cons_zero, List.set_cons_succ]
          refine wpT_pureD (v := ?_) (some 41) rfl rfl (by rfl) (fun w' => ?_) ?_
          rotate_left
          · (go_simp; try with_reducible rfl)
          try simp only [Act.put, List.setIfInBounds_toArray, List.set_cons_zero, List.set_cons_succ]
          refine wpT_skipE (some 42) rfl rfl (by rfl) ?_
          try simp only [Act.put, List.setIfInBounds_toArray, List.set_cons_zero, List.set_cons_succ]
          refine wpT_skipE (some 43) rfl rfl (by rfl) ?_
          try simp only [Act.put, List.setIfInBounds_toArray, List.set_cons_zero, List.set_cons_succ]
          refine wpT_skipE (some 44) rfl rfl (by rfl) ?_
          try simp only [Act.put, List.setIfInBounds_toArray, List.set_cons_zero, List.set_cons_succ]
          refine wpT_skipE (some 45) rfl rfl (by rfl) ?_
          try simp only [Act.put, List.setIfInBounds_toArray, List.set_cons_zero, List.set_cons_succ]
          refine wpT_skipE (some 46) rfl rfl (by rfl) ?_
          try simp only [Act.put, List.setIfInBounds_toArray, List.set_cons_zero, List.set_cons_succ]
          refine wpT_skipE (some 47) rfl rfl (by rfl) ?_
          try simp only [Act.put, List.setIfInBounds_toArray, List.set_cons_zero, List.set_cons_succ]
          refine wpT_skipE (some 48) rfl rfl (by rfl) ?_
          try simp only [Act.put, List.setIfInBounds_toArray, List.set_cons_zero, List.set_cons_succ]
          refine wpT_skipE (some 49) rfl rfl (by rfl) ?_
          try simp only [Act.put, List.setIfInBounds_toArray, List.set_cons_zero, List.set_cons_succ]
          refine wpT_skipE (some 50) rfl rfl (by rfl) ?_
          try simp only [Act.put, List.setIfInBounds_toArray, List.set_cons_zero, List.set_cons_succ]
          refine wpT_skipE (some 51) rfl rfl (by rfl) ?_
          try simp only [Act.put, List.setIfInBounds_toArray, List.set_cons_zero, List.set_cons_succ]
          refine wpT_skipE (some 52) rfl rfl (by rfl) ?_
          try simp only [Act.put, List.setIfInBounds_toArray, List.set_cons_zero, List.set_cons_succ]
          refine wpT_skipE (some 53) rfl rfl (by rfl) ?_
          try simp only [Act.put, List.setIfInBounds_toArray, List.set_cons_zero, List.set_cons_succ]
          refine wpT_skipE (some 54) rfl rfl (by rfl) ?_
          try simp only [Act.put, List.setIfInBounds_toArray, List.set_cons_zero, List.set_cons_succ]
          refine wpT_skipE (some 55) rfl rfl (by rfl) ?_
          try simp only [Act.put, List.setIfInBounds_toArray, List.set_cons_zero, List.set_cons_succ]
          refine wpT_skipE (some 56) rfl rfl (by rfl) ?_
          try simp only [Act.put, List.setIfInBounds_toArray, List.set_cons_zero, List.set_cons_succ]
          refine wpT_skipE (some 57) rfl rfl (by rfl) ?_
          try simp only [Act.put, List.setIfInBounds_toArray, List.set_cons_zero, List.set_cons_succ]
          refine wpT_skipE (some 58) rfl rfl (by rfl) ?_
          try simp only [Act.put, List.setIfInBounds_toArray, List.set_cons_zero, List.set_cons_succ]
          refine wpT_skipE (some 59) rfl rfl (by rfl) ?_
          try simp only [Act.put, List.setIfInBounds_toArray, List.set_cons_zero, List.set_cons_succ]
          refine wpT_skipE (some 60) rfl rfl (by rfl) ?_
          try simp only [Act.put, List.setIfInBounds_toArray, List.set_cons_zero, List.set_cons_succ]
          refine wpT_skipE (some 61) rfl rfl (by rfl) ?_
          try simp only [Act.put, List.setIfInBounds_toArray, List.set_cons_zero, List.set_cons_succ]
          refine wpT_skipE (some 62) rfl rfl (by rfl) ?_
          try simp only [Act.put, List.setIfInBounds_toArray, List.set_cons_zero, List.set_cons_succ]
          refine wpT_skipE (some 63) rfl rfl (by rfl) ?_
          try simp only [Act.put, List.setIfInBounds_toArray, List.set_cons_zero, List.set_cons_succ]
          refine wpT_skipE (some 64) rfl rfl (by rfl) ?_
          try simp only [Act.put, List.setIfInBounds_toArray, List.set_cons_zero, List.set_cons_succ]
          refine wpT_skipE (some 65) rfl rfl (by rfl) ?_
          try simp only [Act.put, List.setIfInBounds_toArray, List.set_cons_zero, List.set_cons_succ]
          refine wpT_skipE (some 66) rfl rfl (by rfl) ?_
          try simp only [Act.put, List.setIfInBounds_toArray, List.set_cons_zero, List.set_cons_succ]
          refine wpT_skipE (some 67) rfl rfl (by rfl) ?_
          try simp only [Act.put, List.setIfInBounds_toArray, List.set_cons_zero, List.set_cons_succ]
          refine wpT_skipE (some 68) rfl rfl (by rfl) ?_
          try simp only [Act.put, List.setIfInBounds_toArray, List.set_cons_zero, List.set_cons_succ]
          refine wpT_skipE (some 69) rfl rfl (by rfl) ?_
          try simp only [Act.put, List.setIfInBounds_toArray, List.set_cons_zero, List.set_cons_succ]
          refine wpT_skipE (some 70) rfl rfl (by rfl) ?_
          try simp only [Act.put, List.setIfInBounds_toArray, List.set_cons_zero, List.set_cons_succ]
          refine wpT_skipE (some 71) rfl rfl (by rfl) ?_
          try simp only [Act.put, List.setIfInBounds_toArray, List.set_cons_zero, List.set_cons_succ]
          refine wpT_skipE (some 72) rfl rfl (by rfl) ?_
          try simp only [Act.put, List.setIfInBounds_toArray, List.set_cons_zero, List.set_cons_succ]
          refine wpT_pureD (v := ?_) (some 73) rfl rfl (by rfl) (fun w' => ?_) ?_
          rotate_left
          · (go_simp; try with_reducible rfl)
          try simp only [Act.put, List.setIfInBounds_toArray, List.set_cons_zero, List.set_cons_succ]
          refine wpT_pureD (v := ?_) (some 74) rfl rfl (by rfl) (fun w' => ?_) ?_
          rotate_left
          · (go_simp; try with_reducible rfl)
          try simp only [Act.put, List.setIfInBounds_toArray, List.set_cons_zero, List.set_cons_succ]
          refine wpT_end ?_
          go_wp2_with fail
          go_meet
          exact ⟨rfl, HZ.out.symm⟩
        have hkp : 0 < k := by omega
        obtain ⟨j, hj⟩ : ∃ j, j = k - 1 := ⟨_, rfl⟩
        have hjm : j < m := by have := HK.out; omega
        obtain ⟨⟨pf, pt, pr⟩, hpx⟩ : ∃ x, R[j]? = some x := ⟨_, List.getElem?_eq_getElem (by have := HM.out; omega)⟩
        have d1 : Y.cell? ⟨g, j * 3 + 1, none⟩ = some (.int .u64 (pt : Int)) := cellsAt HOY.out HGB.out _ _ (by rw [flatR_get _ _ _ hpx 1 (by omega)]; rfl)
        have d2 : Y.cell? ⟨g, j * 3 + 2, none⟩ = some (.int .i64 pr) := cellsAt HOY.out HGB.out _ _ (by rw [flatR_get _ _ _ hpx 2 (by omega)]; rfl)
        obtain ⟨a1, a2⟩ := runs_get HOK.out hpx HX.out (by omega)
        simp only [] at a1 a2
        have gw : wrap64 ((k : Int) - 1) = (j : Int) := by rw [IntWalk.wrap64_in _ ⟨by omega, by have := HLEN.out; omega⟩]; omega
        have gw2 : IntKind.i64.wrap ((k : Int) - 1) = (j : Int) := by rw [IntKind.wrap_i64]; have := HLEN.out; omega
        have gk : decide ((0 : Int) < (k : Int)) = true := by rw [decide_eq_true_eq]; omega
        have g3 : decide ((f : Int) < (pt : Int)) = false := by rw [decide_eq_false_iff_not]; omega
        have n3 : ¬ f < pt := by omega
        clear hj hpx k0
        by_cases k1 : pt = f
        · have g4 : ((pt : Int) == (f : Int)) = true := by rw [beq_iff_eq]; omega
          have g5 : (pr == r) = false := by rw [Bool.eq_false_iff]; simp; exact a2 k1
          clear a2
          refine wp_region_C (fun w' => w'.cell? ⟨b1, 0, none⟩ = some (.int .u64 (f : Int)) ∧ w'.cell? ⟨b1, 1, none⟩ = some (.int .u64 (t : Int)) ∧ w'.cell? ⟨b1, 2, none⟩ = some (.int .i64 r) ∧ w'.cell? ⟨g, j * 3 + 1, none⟩ = some (.int .u64 (pt : Int)) ∧ w'.cell? ⟨g, j * 3 + 2, none⟩ = some (.int .i64 pr)) [(0, 0), (1, 1), (2, 0), (3, 1), (4, 0), (5, 0), (6, 0), (7, 1), (8, 0), (9, 0), (10, 0), (11, 0), (12, 1), (13, 0), (14, 0), (15, 0), (16, 0), (17, 0), (18, 0), (19, 0), (20, 0), (21, 0), (22, 0), (23, 0), (24, 1), (25, 0), (26, 1), (27, 0), (28, 0), (29, 0), (30, 0), (31, 0), (32, 0), (33, 0), (34, 1), (35, 0), (36, 1), (37, 0), (38, 0), (39, 0), (40, 0), (41, 0), (42, 0), (43, 0), (44, 1), (45, 0), (46, 1), (47, 0), (48, 0), (49, 0), (50, 0), (51, 0)] rfl (by kernel_rfl) ?hSA ?hTA
          case hSA => exact ⟨y0, y1, y2, d1, d2⟩
          refine wpT_pureD (v := ?_) (some 23) rfl rfl (by rfl) (fun w' => ?_) ?_
          rotate_left
          · (go_simp; try with_reducible rfl)
          try simp only [Act.put, List.setIfInBounds_toArray, List.set_cons_zero, List.set_cons_succ]
          refine wpT_readD (v := ?_) (some 24) rfl rfl (by rfl) (fun w' hw => ?_) ?_
          rotate_left
          · (obtain ⟨q0, q1, q2, q3, q4⟩ := hw; go_simp; try with_reducible rfl)
          try simp only [Act.put, List.setIfInBounds_toArray, List.set_cons_zero, List.set_cons_succ]
          refine wpT_pureD (v := ?_) (some 25) rfl rfl (by rfl) (fun w' => ?_) ?_
          rotate_left
          · (go_simp; try with_reducible rfl)
          try simp only [Act.put, List.setIfInBounds_toArray, List.set_cons_zero, List.set_cons_succ]
          refine wpT_readD (v := ?_) (some 26) rfl rfl (by rfl) (fun w' hw => ?_) ?_
          rotate_left
          · (obtain ⟨q0, q1, q2, q3, q4⟩ := hw; go_simp; try with_reducible rfl)
          try simp only [Act.put, List.setIfInBounds_toArray, List.set_cons_zero, List.set_cons_succ]
          refine wpT_pureD (v := ?_) (some 27) rfl rfl (by rfl) (fun w' => ?_) ?_
          rotate_left
          · (go_simp; try with_reducible rfl)
          try simp only [Act.put, List.setIfInBounds_toArray, List.set_cons_zero, List.set_cons_succ]
          refine wpT_pureD (v := ?_) (some 28) rfl rfl (by rfl) (fun w' => ?_) ?_
          rotate_left
          · (go_simp; try with_reducible rfl)
          try simp only [Act.put, List.setIfInBounds_toArray, List.set_cons_zero, List.set_cons_succ]
          refine wpT_pureD (v := ?_) (some 29) rfl rfl (by rfl) (fun w' => ?_) ?_
          rotate_left
          · (go_simp; try with_reducible rfl)
          try simp only [Act.put, List.setIfInBounds_toArray, List.set_cons_zero, List.set_cons_succ]
          refine wpT_readD (v := ?_) (some 30) rfl rfl (by rfl) (fun w' hw => ?_) ?_
          rotate_left
          · (obtain ⟨q0, q1, q2, q3, q4⟩ := hw; go_simp; try with_reducible rfl)
          try simp only [Act.put, List.setIfInBounds_toArray, List.set_cons_zero, List.set_cons_succ]
          refine wpT_pureD (v := ?_) (some 31) rfl rfl (by rfl) (fun w' => ?_) ?_
          rotate_left
          · (go_simp; try with_reducible rfl)
          try simp only [Act.put, List.setIfInBounds_toArray, List.set_cons_zero, List.set_cons_succ]
          refine wpT_pureD (v := ?_) (some 32) rfl rfl (by rfl) (fun w' => ?_) ?_
          rotate_left
          · (go_simp; try with_reducible rfl)
          try simp only [Act.put, List.setIfInBounds_toArray, List.set_cons_zero, List.set_cons_succ]
          refine wpT_pureD (v := ?_) (some 33) rfl rfl (by rfl) (fun w' => ?_) ?_
          rotate_left
          · (go_simp; try with_reducible rfl)
          try simp only [Act.put, List.setIfInBounds_toArray, List.set_cons_zero, List.set_cons_succ]
          refine wpT_pureD (v := ?_) (some 34) rfl rfl (by rfl) (fun w' => ?_) ?_
          rotate_left
          · (go_simp; try with_reducible rfl)
          try simp only [Act.put, List.setIfInBounds_toArray, List.set_cons_zero, List.set_cons_succ]
          refine wpT_readD (v := ?_) (some 35) rfl rfl (by rfl) (fun w' hw => ?_) ?_
          rotate_left
          · (obtain ⟨q0, q1, q2, q3, q4⟩ := hw; go_simp; try with_reducible rfl)
          try simp only [Act.put, List.setIfInBounds_toArray, List.set_cons_zero, List.set_cons_succ]
          refine wpT_pureD (v := ?_) (some 36) rfl rfl (by rfl) (fun w' => ?_) ?_
          rotate_left
          · (go_simp; try with_reducible rfl)
          try simp only [Act.put, List.setIfInBounds_toArray, List.set_cons_zero, List.set_cons_succ]
          refine wpT_pureD (v := ?_) (some 37) rfl rfl (by rfl) (fun w' => ?_) ?_
          rotate_left
          · (go_simp; try with_reducible rfl)
          try simp only [Act.put, List.setIfInBounds_toArray, List.set_cons_zero, List.set_cons_succ]
          refine wpT_pureD (v := ?_) (some 38) rfl rfl (by rfl) (fun w' => ?_) ?_
          rotate_left
          · (go_simp; try with_reducible rfl)
          try simp only [Act.put, List.setIfInBounds_toArray, List.set_cons_zero, List.set_cons_succ]
          refine wpT_pureD (v := ?_) (some 39) rfl rfl (by rfl) (fun w' => ?_) ?_
          rotate_left
          · (go_simp; try with_reducible rfl)
          try simp only [Act.put, List.setIfInBounds_toArray, List.set_cons_zero, List.set_cons_succ]
          refine wpT_pureD (v := ?_) (some 40) rfl rfl (by rfl) (fun w' => ?_) ?_
          rotate_left
          · (go_simp; try with_reducible rfl)
          try simp only [Act.put, List.setIfInBounds_toArray, List.set_cons_zero, List.set_cons_succ]
          refine wpT_pureD (v := ?_) (some 41) rfl rfl (by rfl) (fun w' => ?_) ?_
          rotate_left
          · (go_simp; try with_reducible rfl)
          try simp only [Act.put, List.setIfInBounds_toArray, List.set_cons_zero, List.set_cons_succ]
          refine wpT_pureD (v := ?_) (some 42) rfl rfl (by rfl) (fun w' => ?_) ?_
          rotate_left
          · (go_simp; try with_reducible rfl)
          try simp only [Act.put, List.setIfInBounds_toArray, List.set_cons_zero, List.set_cons_succ]
          refine wpT_pureD (v := ?_) (some 43) rfl rfl (by rfl) (fun w' => ?_) ?_
          rotate_left
          · (go_simp; try with_reducible rfl)
          try simp only [Act.put, List.setIfInBounds_toArray, List.set_cons_zero, List.set_cons_succ]
          refine wpT_pureD (v := ?_) (some 44) rfl rfl (by rfl) (fun w' => ?_) ?_
          rotate_left
          · (go_simp; try with_reducible rfl)
          try simp only [Act.put, List.setIfInBounds_toArray, List.set_cons_zero, List.set_cons_succ]
          refine wpT_pureD (v := ?_) (some 45) rfl rfl (by rfl) (fun w' => ?_) ?_
          rotate_left
          · (go_simp; try with_reducible rfl)
          try simp only [Act.put, List.setIfInBounds_toArray, List.set_cons_zero, List.set_cons_succ]
          refine wpT_pureD (v := ?_) (some 46) rfl rfl (by rfl) (fun w' => ?_) ?_
          rotate_left
          · (go_simp; try with_reducible rfl)
          try simp only [Act.put, List.setIfInBounds_toArray, List.set_cons_zero, List.set_cons_succ]
          refine wpT_readD (v := ?_) (some 47) rfl rfl (by rfl) (fun w' hw => ?_) ?_
          rotate_left
          · (obtain ⟨q0, q1, q2, q3, q4⟩ := hw; go_simp; try with_reducible rfl)
          try simp only [Act.put, List.setIfInBounds_toArray, List.set_cons_zero, List.set_cons_succ]
          refine wpT_pureD (v := ?_) (some 48) rfl rfl (by rfl) (fun w' => ?_) ?_
          rotate_left
          · (go_simp; try with_reducible rfl)
          try simp only [Act.put, List.setIfInBounds_toArray, List.set_cons_zero, List.set_cons_succ]
          refine wpT_readD (v := ?_) (some 49) rfl rfl (by rfl) (fun w' hw => ?_) ?_
          rotate_left
          · (obtain ⟨q0, q1, q2, q3, q4⟩ := hw; go_simp; try with_reducible rfl)
          try simp only [Act.put, List.setIfInBounds_toArray, List.set_cons_zero, List.set_cons_succ]
          refine wpT_pureD (v := ?_) (some 50) rfl rfl (by rfl) (fun w' => ?_) ?_
          rotate_left
          · (go_simp; try with_reducible rfl)
          try simp only [Act.put, List.setIfInBounds_toArray, List.set_cons_zero, List.set_cons_succ]
          refine wpT_pureD (v := ?_) (some 51) rfl rfl (by rfl) (fun w' => ?_) ?_
          rotate_left
          · (go_simp; try with_reducible rfl)
          try simp only [Act.put, List.setIfInBounds_toArray, List.set_cons_zero, List.set_cons_succ]
          refine wpT_pureD (v := ?_) (some 52) rfl rfl (by rfl) (fun w' => ?_) ?_
          rotate_left
          · (go_simp; try with_reducible rfl)
          try simp only [Act.put, List.setIfInBounds_toArray, List.set_cons_zero, List.set_cons_succ]
          refine wpT_pureD (v := ?_) (some 53) rfl rfl (by rfl) (fun w' => ?_) ?_
          rotate_left
          · (go_simp; try with_reducible rfl)
          try simp only [Act.put, List.setIfInBounds_toArray, List.set_cons_zero, List.set_cons_succ]
          refine wpT_pureD (v := ?_) (some 54) rfl rfl (by rfl) (fun w' => ?_) ?_
          rotate_left
          · (go_simp; try with_reducible rfl)
          try simp only [Act.put, List.setIfInBounds_toArray, List.set_cons_zero, List.set_cons_succ]
          refine wpT_pureD (v := ?_) (some 55) rfl rfl (by rfl) (fun w' => ?_) ?_
          rotate_left
          · (go_simp; try with_reducible rfl)
          try simp only [Act.put, List.setIfInBounds_toArray, List.set_cons_zero, List.set_cons_succ]
          refine wpT_pureD (v := ?_) (some 56) rfl rfl (by rfl) (fun w' => ?_) ?_
          rotate_left
          · (go_simp; try with_reducible rfl)
          try simp only [Act.put, List.setIfInBounds_toArray, List.set_cons_zero, List.set_cons_succ]
          refine wpT_readD (v := ?_) (some 57) rfl rfl (by rfl) (fun w' hw => ?_) ?_
          rotate_left
          · (obtain ⟨q0, q1, q2, q3, q4⟩ := hw; go_simp; try with_reducible rfl)
          try simp only [Act.put, List.setIfInBounds_toArray, List.set_cons_zero, List.set_cons_succ]
          refine wpT_pureD (v := ?_) (some 58) rfl rfl (by rfl) (fun w' => ?_) ?_
          rotate_left
          · (go_simp; try with_reducible rfl)
          try simp only [Act.put, List.setIfInBounds_toArray, List.set_cons_zero, List.set_cons_succ]
          refine wpT_readD (v := ?_) (some 59) rfl rfl (by rfl) (fun w' hw => ?_) ?_
          rotate_left
          · (obtain ⟨q0, q1, q2, q3, q4⟩ := hw; go_simp; try with_reducible rfl)
          try simp only [Act.put, List.setIfInBounds_toArray, List.set_cons_zero, List.set_cons_succ]
          refine wpT_pureD (v := ?_) (some 60) rfl rfl (by rfl) (fun w' => ?_) ?_
          rotate_left
          · (go_simp; try with_reducible rfl)
          try simp only [Act.put, List.setIfInBounds_toArray, List.set_cons_zero, List.set_cons_succ]
          refine wpT_pureD (v := ?_) (some 61) rfl rfl (by rfl) (fun w' => ?_) ?_
          rotate_left
          · (go_simp; try with_reducible rfl)
          try simp only [Act.put, List.setIfInBounds_toArray, List.set_cons_zero, List.set_cons_succ]
          refine wpT_pureD (v := ?_) (some 62) rfl rfl (by rfl) (fun w' => ?_) ?_
          rotate_left
          · (go_simp; try with_reducible rfl)
          try simp only [Act.put, List.setIfInBounds_toArray, List.set_cons_zero, List.set_cons_succ]
          refine wpT_pureD (v := ?_) (some 63) rfl rfl (by rfl) (fun w' => ?_) ?_
          rotate_left
          · (go_simp; try with_reducible rfl)
          try simp only [Act.put, List.setIfInBounds_toArray, List.set_cons_zero, List.set_cons_succ]
          refine wpT_pureD (v := ?_) (some 64) rfl rfl (by rfl) (fun w' => ?_) ?_
          rotate_left
          · (go_simp; try with_reducible rfl)
          try simp only [Act.put, List.setIfInBounds_toArray, List.set_cons_zero, List.set_cons_succ]
          refine wpT_pureD (v := ?_) (some 65) rfl rfl (by rfl) (fun w' => ?_) ?_
          rotate_left
          · (go_simp; try with_reducible rfl)
          try simp only [Act.put, List.setIfInBounds_toArray, List.set_cons_zero, List.set_cons_succ]
          refine wpT_pureD (v := ?_) (some 66) rfl rfl (by rfl) (fun w' => ?_) ?_
          rotate_left
          · (go_simp; try with_reducible rfl)
          try simp only [Act.put, List.setIfInBounds_toArray, List.set_cons_zero, List.set_cons_succ]
          refine wpT_readD (v := ?_) (some 67) rfl rfl (by rfl) (fun w' hw => ?_) ?_
          rotate_left
          · (obtain ⟨q0, q1, q2, q3, q4⟩ := hw; go_simp; try with_reducible rfl)
          try simp only [Act.put, List.setIfInBounds_toArray, List.set_cons_zero, List.set_cons_succ]
          refine wpT_pureD (v := ?_) (some 68) rfl rfl (by rfl) (fun w' => ?_) ?_
          rotate_left
          · (go_simp; try with_reducible rfl)
          try simp only [Act.put, List.setIfInBounds_toArray, List.set_cons_zero, List.set_cons_succ]
          refine wpT_readD (v := ?_) (some 69) rfl rfl (by rfl) (fun w' hw => ?_) ?_
          rotate_left
          · (obtain ⟨q0, q1, q2, q3, q4⟩ := hw; go_simp; try with_reducible rfl)
          try simp only [Act.put, List.setIfInBounds_toArray, List.set_cons_zero, List.set_cons_succ]
          refine wpT_pureD (v := ?_) (some 70) rfl rfl (by rfl) (fun w' => ?_) ?_
          rotate_left
          · (go_simp; try with_reducible rfl)
          try simp only [Act.put, List.setIfInBounds_toArray, List.set_cons_zero, List.set_cons_succ]
          refine wpT_pureD (v := ?_) (some 71) rfl rfl (by rfl) (fun w' => ?_) ?_
          rotate_left
          · (go_simp; try with_reducible rfl)
          try simp only [Act.put, List.setIfInBounds_toArray, List.set_cons_zero, List.set_cons_succ]
          refine wpT_pureD (v := ?_) (some 72) rfl rfl (by rfl) (fun w' => ?_) ?_
          rotate_left
          · (go_simp; try with_reducible rfl)
          try simp only [Act.put, List.setIfInBounds_toArray, List.set_cons_zero, List.set_cons_succ]
          refine wpT_pureD (v := ?_) (some 73) rfl rfl (by rfl) (fun w' => ?_) ?_
          rotate_left
          · (go_simp; try with_reducible rfl)
          try simp only [Act.put, List.setIfInBounds_toArray, List.set_cons_zero, List.set_cons_succ]
          refine wpT_pureD (v := ?_) (some 74) rfl rfl (by rfl) (fun w' => ?_) ?_
          rotate_left
          · (go_simp; try with_reducible rfl)
          try simp only [Act.put, List.setIfInBounds_toArray, List.set_cons_zero, List.set_cons_succ]
          refine wpT_end ?_
          go_wp2_with fail
          go_meet
          exact ⟨rfl, HZ.out.symm⟩
        · have g4 : ((pt : Int) == (f : Int)) = false := by rw [Bool.eq_false_iff]; simp; omega
          clear a2 k1
          refine wp_region_C (fun w' => w'.cell? ⟨b1, 0, none⟩ = some (.int .u64 (f : Int)) ∧ w'.cell? ⟨b1, 1, none⟩ = some (.int .u64 (t : Int)) ∧ w'.cell? ⟨b1, 2, none⟩ = some (.int .i64 r) ∧ w'.cell? ⟨g, j * 3 + 1, none⟩ = some (.int .u64 (pt : Int)) ∧ w'.cell? ⟨g, j * 3 + 2, none⟩ = some (.int .i64 pr)) [(0, 0), (1, 1), (2, 0), (3, 1), (4, 0), (5, 0), (6, 0), (7, 1), (8, 0), (9, 0), (10, 0), (11, 0), (12, 1), (13, 0), (14, 0), (15, 0), (16, 0), (17, 0), (18, 0), (19, 0), (20, 0), (21, 0), (22, 0), (23, 0), (24, 1), (25, 0), (26, 1), (27, 0), (28, 0), (29, 0), (30, 0), (31, 0), (32, 0), (33, 0), (34, 1), (35, 0), (36, 1), (37, 0), (38, 0), (39, 0), (40, 0), (41, 0), (42, 0), (43, 0), (44, 1), (45, 0), (46, 1), (47, 0), (48, 0), (49, 0), (50, 0), (51, 0)] rfl (by kernel_rfl) ?hSB ?hTB
          case hSB => exact ⟨y0, y1, y2, d1, d2⟩
          refine wpT_pureD (v := ?_) (some 23) rfl rfl (by rfl) (fun w' => ?_) ?_
          rotate_left
          · (go_simp; try with_reducible rfl)
          try simp only [Act.put, List.setIfInBounds_toArray, List.set_cons_zero, List.set_cons_succ]
          refine wpT_readD (v := ?_) (some 24) rfl rfl (by rfl) (fun w' hw => ?_) ?_
          rotate_left
          · (obtain ⟨q0, q1, q2, q3, q4⟩ := hw; go_simp; try with_reducible rfl)
          try simp only [Act.put, List.setIfInBounds_toArray, List.set_cons_zero, List.set_cons_succ]
          refine wpT_pureD (v := ?_) (some 25) rfl rfl (by rfl) (fun w' => ?_) ?_
          rotate_left
          · (go_simp; try with_reducible rfl)
          try simp only [Act.put, List.setIfInBounds_toArray, List.set_cons_zero, List.set_cons_succ]
          refine wpT_readD (v := ?_) (some 26) rfl rfl (by rfl) (fun w' hw => ?_) ?_
          rotate_left
          · (obtain ⟨q0, q1, q2, q3, q4⟩ := hw; go_simp; try with_reducible rfl)
          try simp only [Act.put, List.setIfInBounds_toArray, List.set_cons_zero, List.set_cons_succ]
          refine wpT_pureD (v := ?_) (some 27) rfl rfl (by rfl) (fun w' => ?_) ?_
          rotate_left
          · (go_simp; try with_reducible rfl)
          try simp only [Act.put, List.setIfInBounds_toArray, List.set_cons_zero, List.set_cons_succ]
          refine wpT_pureD (v := ?_) (some 28) rfl rfl (by rfl) (fun w' => ?_) ?_
          rotate_left
          · (go_simp; try with_reducible rfl)
          try simp only [Act.put, List.setIfInBounds_toArray, List.set_cons_zero, List.set_cons_succ]
          refine wpT_pureD (v := ?_) (some 29) rfl rfl (by rfl) (fun w' => ?_) ?_
          rotate_left
          · (go_simp; try with_reducible rfl)
          try simp only [Act.put, List.setIfInBounds_toArray, List.set_cons_zero, List.set_cons_succ]
          refine wpT_readD (v := ?_) (some 30) rfl rfl (by rfl) (fun w' hw => ?_) ?_
          rotate_left
          · (obtain ⟨q0, q1, q2, q3, q4⟩ := hw; go_simp; try with_reducible rfl)
          try simp only [Act.put, List.setIfInBounds_toArray, List.set_cons_zero, List.set_cons_succ]
          refine wpT_pureD (v := ?_) (some 31) rfl rfl (by rfl) (fun w' => ?_) ?_
          rotate_left
          · (go_simp; try with_reducible rfl)
          try simp only [Act.put, List.setIfInBounds_toArray, List.set_cons_zero, List.set_cons_succ]
          refine wpT_pureD (v := ?_) (some 32) rfl rfl (by rfl) (fun w' => ?_) ?_
          rotate_left
          · (go_simp; try with_reducible rfl)
          try simp only [Act.put, List.setIfInBounds_toArray, List.set_cons_zero, List.set_cons_succ]
          refine wpT_pureD (v := ?_) (some 33) rfl rfl (by rfl) (fun w' => ?_) ?_
          rotate_left
          · (go_simp; try with_reducible rfl)
          try simp only [Act.put, List.setIfInBounds_toArray, List.set_cons_zero, List.set_cons_succ]
          refine wpT_pureD (v := ?_) (some 34) rfl rfl (by rfl) (fun w' => ?_) ?_
          rotate_left
          · (go_simp; try with_reducible rfl)
          try simp only [Act.put, List.setIfInBounds_toArray, List.set_cons_zero, List.set_cons_succ]
          refine wpT_readD (v := ?_) (some 35) rfl rfl (by rfl) (fun w' hw => ?_) ?_
          rotate_left
          · (obtain ⟨q0, q1, q2, q3, q4⟩ := hw; go_simp; try with_reducible rfl)
          try simp only [Act.put, List.setIfInBounds_toArray, List.set_cons_zero, List.set_cons_succ]
          refine wpT_pureD (v := ?_) (some 36) rfl rfl (by rfl) (fun w' => ?_) ?_
          rotate_left
          · (go_simp; try with_reducible rfl)
          try simp only [Act.put, List.setIfInBounds_toArray, List.set_cons_zero, List.set_cons_succ]
          refine wpT_pureD (v := ?_) (some 37) rfl rfl (by rfl) (fun w' => ?_) ?_
          rotate_left
          · (go_simp; try with_reducible rfl)
          try simp only [Act.put, List.setIfInBounds_toArray, List.set_cons_zero, List.set_cons_succ]
          refine wpT_pureD (v := ?_) (some 38) rfl rfl (by rfl) (fun w' => ?_) ?_
          rotate_left
          · (go_simp; try with_reducible rfl)
          try simp only [Act.put, List.setIfInBounds_toArray, List.set_cons_zero, List.set_cons_succ]
          refine wpT_pureD (v := ?_) (some 39) rfl rfl (by rfl) (fun w' => ?_) ?_
          rotate_left
          · (go_simp; try with_reducible rfl)
          try simp only [Act.put, List.setIfInBounds_toArray, List.set_cons_zero, List.set_cons_succ]
          refine wpT_pureD (v := ?_) (some 40) rfl rfl (by rfl) (fun w' => ?_) ?_
          rotate_left
          · (go_simp; try with_reducible rfl)
          try simp only [Act.put, List.setIfInBounds_toArray, List.set_cons_zero, List.set_cons_succ]
          refine wpT_pureD (v := ?_) (some 41) rfl rfl (by rfl) (fun w' => ?_) ?_
          rotate_left
          · (go_simp; try with_reducible rfl)
          try simp only [Act.put, List.setIfInBounds_toArray, List.set_cons_zero, List.set_cons_succ]
          refine wpT_pureD (v := ?_) (some 42) rfl rfl (by rfl) (fun w' => ?_) ?_
          rotate_left
          · (go_simp; try with_reducible rfl)
          try simp only [Act.put, List.setIfInBounds_toArray, List.set_cons_zero, List.set_cons_succ]
          refine wpT_pureD (v := ?_) (some 43) rfl rfl (by rfl) (fun w' => ?_) ?_
          rotate_left
          · (go_simp; try with_reducible rfl)
          try simp only [Act.put, List.setIfInBounds_toArray, List.set_cons_zero, List.set_cons_succ]
          refine wpT_pureD (v := ?_) (some 44) rfl rfl (by rfl) (fun w' => ?_) ?_
          rotate_left
          · (go_simp; try with_reducible rfl)
          try simp only [Act.put, List.setIfInBounds_toArray, List.set_cons_zero, List.set_cons_succ]
          refine wpT_pureD (v := ?_) (some 45) rfl rfl (by rfl) (fun w' => ?_) ?_
          rotate_left
          · (go_simp; try with_reducible rfl)
          try simp only [Act.put, List.setIfInBounds_toArray, List.set_cons_zero, List.set_cons_succ]
          refine wpT_pureD (v := ?_) (some 46) rfl rfl (by rfl) (fun w' => ?_) ?_
          rotate_left
          · (go_simp; try with_reducible rfl)
          try simp only [Act.put, List.setIfInBounds_toArray, List.set_cons_zero, List.set_cons_succ]
          refine wpT_readD (v := ?_) (some 47) rfl rfl (by rfl) (fun w' hw => ?_) ?_
          rotate_left
          · (obtain ⟨q0, q1, q2, q3, q4⟩ := hw; go_simp; try with_reducible rfl)
          try simp only [Act.put, List.setIfInBounds_toArray, List.set_cons_zero, List.set_cons_succ]
          refine wpT_pureD (v := ?_) (some 48) rfl rfl (by rfl) (fun w' => ?_) ?_
          rotate_left
          · (go_simp; try with_reducible rfl)
          try simp only [Act.put, List.setIfInBounds_toArray, List.set_cons_zero, List.set_cons_succ]
          refine wpT_readD (v := ?_) (some 49) rfl rfl (by rfl) (fun w' hw => ?_) ?_
          rotate_left
          · (obtain ⟨q0, q1, q2, q3, q4⟩ := hw; go_simp; try with_reducible rfl)
          try simp only [Act.put, List.setIfInBounds_toArray, List.set_cons_zero, List.set_cons_succ]
          refine wpT_pureD (v := ?_) (some 50) rfl rfl (by rfl) (fun w' => ?_) ?_
          rotate_left
          · (go_simp; try with_reducible rfl)
          try simp only [Act.put, List.setIfInBounds_toArray, List.set_cons_zero, List.set_cons_succ]
          refine wpT_pureD (v := ?_) (some 51) rfl rfl (by rfl) (fun w' => ?_) ?_
          rotate_left
          · (go_simp; try with_reducible rfl)
          try simp only [Act.put, List.setIfInBounds_toArray, List.set_cons_zero, List.set_cons_succ]
          refine wpT_pureD (v := ?_) (some 52) rfl rfl (by rfl) (fun w' => ?_) ?_
          rotate_left
          · (go_simp; try with_reducible rfl)
          try simp only [Act.put, List.setIfInBounds_toArray, List.set_cons_zero, List.set_cons_succ]
          refine wpT_pureD (v := ?_) (some 53) rfl rfl (by rfl) (fun w' => ?_) ?_
          rotate_left
          · (go_simp; try with_reducible rfl)
          try simp only [Act.put, List.setIfInBounds_toArray, List.set_cons_zero, List.set_cons_succ]
          refine wpT_pureD (v := ?_) (some 54) rfl rfl (by rfl) (fun w' => ?_) ?_
          rotate_left
          · (go_simp; try with_reducible rfl)
          try simp only [Act.put, List.setIfInBounds_toArray, List.set_cons_zero, List.set_cons_succ]
          refine wpT_pureD (v := ?_) (some 55) rfl rfl (by rfl) (fun w' => ?_) ?_
          rotate_left
          · (go_simp; try with_reducible rfl)
          try simp only [Act.put, List.setIfInBounds_toArray, List.set_cons_zero, List.set_cons_succ]
          refine wpT_pureD (v := ?_) (some 56) rfl rfl (by rfl) (fun w' => ?_) ?_
          rotate_left
          · (go_simp; try with_reducible rfl)
          try simp only [Act.put, List.setIfInBounds_toArray, List.set_cons_zero, List.set_cons_succ]
          refine wpT_readD (v := ?_) (some 57) rfl rfl (by rfl) (fun w' hw => ?_) ?_
          rotate_left
          · (obtain ⟨q0, q1, q2, q3, q4⟩ := hw; go_simp; try with_reducible rfl)
          try simp only [Act.put, List.setIfInBounds_toArray, List.set_cons_zero, List.set_cons_succ]
          refine wpT_pureD (v := ?_) (some 58) rfl rfl (by rfl) (fun w' => ?_) ?_
          rotate_left
          · (go_simp; try with_reducible rfl)
          try simp only [Act.put, List.setIfInBounds_toArray, List.set_cons_zero, List.set_cons_succ]
          refine wpT_readD (v := ?_) (some 59) rfl rfl (by rfl) (fun w' hw => ?_) ?_
          rotate_left
          · (obtain ⟨q0, q1, q2, q3, q4⟩ := hw; go_simp; try with_reducible rfl)
          try simp only [Act.put, List.setIfInBounds_toArray, List.set_cons_zero, List.set_cons_succ]
          refine wpT_pureD (v := ?_) (some 60) rfl rfl (by rfl) (fun w' => ?_) ?_
          rotate_left
          · (go_simp; try with_reducible rfl)
          try simp only [Act.put, List.setIfInBounds_toArray, List.set_cons_zero, List.set_cons_succ]
          refine wpT_pureD (v := ?_) (some 61) rfl rfl (by rfl) (fun w' => ?_) ?_
          rotate_left
          · (go_simp; try with_reducible rfl)
          try simp only [Act.put, List.setIfInBounds_toArray, List.set_cons_zero, List.set_cons_succ]
          refine wpT_skipE (some 62) rfl rfl (by rfl) ?_
          try simp only [Act.put, List.setIfInBounds_toArray, List.set_cons_zero, List.set_cons_succ]
          refine wpT_skipE (some 63) rfl rfl (by rfl) ?_
          try simp only [Act.put, List.setIfInBounds_toArray, List.set_cons_zero, List.set_cons_succ]
          refine wpT_skipE (some 64) rfl rfl (by rfl) ?_
          try simp only [Act.put, List.setIfInBounds_toArray, List.set_cons_zero, List.set_cons_succ]
          refine wpT_skipE (some 65) rfl rfl (by rfl) ?_
          try simp only [Act.put, List.setIfInBounds_toArray, List.set_cons_zero, List.set_cons_succ]
          refine wpT_skipE (some 66) rfl rfl (by rfl) ?_
          try simp only [Act.put, List.setIfInBounds_toArray, List.set_cons_zero, List.set_cons_succ]
          refine wpT_skipE (some 67) rfl rfl (by rfl) ?_
          try simp only [Act.put, List.setIfInBounds_toArray, List.set_cons_zero, List.set_cons_succ]
          refine wpT_skipE (some 68) rfl rfl (by rfl) ?_
          try simp only [Act.put, List.setIfInBounds_toArray, List.set_cons_zero, List.set_cons_succ]
          refine wpT_skipE (some 69) rfl rfl (by rfl) ?_
          try simp only [Act.put, List.setIfInBounds_toArray, List.set_cons_zero, List.set_cons_succ]
          refine wpT_skipE (some 70) rfl rfl (by rfl) ?_
          try simp only [Act.put, List.setIfInBounds_toArray, List.set_cons_zero, List.set_cons_succ]
          refine wpT_pureD (v := ?_) (some 71) rfl rfl (by rfl) (fun w' => ?_) ?_
          rotate_left
          · (go_simp; try with_reducible rfl)
          try simp only [Act.put, List.setIfInBounds_toArray, List.set_cons_zero, List.set_cons_succ]
          refine wpT_pureD (v := ?_) (some 72) rfl rfl (by rfl) (fun w' => ?_) ?_
          rotate_left
          · (go_simp; try with_reducible rfl)
          try simp only [Act.put, List.setIfInBounds_toArray, List.set_cons_zero, List.set_cons_succ]
          refine wpT_pureD (v := ?_) (some 73) rfl rfl (by rfl) (fun w' => ?_) ?_
          rotate_left
          · (go_simp; try with_reducible rfl)
          try simp only [Act.put, List.setIfInBounds_toArray, List.set_cons_zero, List.set_cons_succ]
          refine wpT_pureD (v := ?_) (some 74) rfl rfl (by rfl) (fun w' => ?_) ?_
          rotate_left
          · (go_simp; try with_reducible rfl)
          try simp only [Act.put, List.setIfInBounds_toArray, List.set_cons_zero, List.set_cons_succ]
          refine wpT_end ?_
          go_wp2_with fail
          go_meet
          exact ⟨rfl, HZ.out.symm⟩
      case rest =>
      obtain ⟨rfl, hwx⟩ := hcut
      obtain rfl := hwx.symm
      have z0 := Z0.out
      have z1 := Z1.out
      have z2 := Z2.out
      clear y0 y1 y2 g1 g2 hr0 HZ Z0 Z1 Z2
      have qw : IntKind.u64.wrap (q : Int) = (q : Int) := by have := HQ.out; rw [u64w]; omega
      go_upto_region 12 with (fail)
      go_cut [86] (fun v wx => v = .bool (decide (f ≤ q ∧ q < t)) ∧ wx = Z)
      case first =>
        by_cases a1 : f ≤ q
        · have g1 : decide ((f : Int) ≤ (q : Int)) = true := by rw [decide_eq_true_eq]; omega
          by_cases a2 : q < t
          · have g2 : decide ((q : Int) < (t : Int)) = true := by rw [decide_eq_true_eq]; omega
            go_wp2_with fail
            go_meet
            exact ⟨by simp [a1, a2], rfl⟩
          · have g2 : decide ((q : Int) < (t : Int)) = false := by rw [decide_eq_false_iff_not]; omega
            go_wp2_with fail
            go_meet
            exact ⟨by simp [a1, a2], rfl⟩
        · have g1 : decide ((f : Int) ≤ (q : Int)) = false := by rw [decide_eq_false_iff_not]; omega
          go_wp2_with fail
          go_meet
          exact ⟨by simp [a1], rfl⟩
      case rest =>
      obtain ⟨rfl, hwx⟩ := hcut
      obtain rfl := hwx.symm
      have HNX := Lib.hid (hasR_succ R k _ q HX.out)
      go_upto_if 86 with (fail)
      go_cut [6] (fun hv wx => hv = .int .i64 (hasR (R.take (k + 1)) q) ∧ wx = Z)
      case first =>
        by_cases a1 : f ≤ q ∧ q < t
        · have g1 : decide (f ≤ q ∧ q < t) = true := by rw [decide_eq_true_eq]; exact a1
          have hh : hasR (R.take (k + 1)) q = r := by rw [HNX.out, if_pos a1]
          have HH := Lib.hid hh
          clear hh
          go_wp2_with fail
          go_meet
          exact ⟨by rw [HH.out], rfl⟩
        · have g1 : decide (f ≤ q ∧ q < t) = false := by rw [decide_eq_false_iff_not]; exact a1
          have hh : hasR (R.take (k + 1)) q = hasR (R.take k) q := by rw [HNX.out, if_neg a1]
          have HH := Lib.hid hh
          clear hh
          go_wp2_with fail
          go_meet
          exact ⟨by rw [HH.out], rfl⟩
      case rest =>
      obtain ⟨rfl, hwx⟩ := hcut
      obtain rfl := hwx.symm
      obtain ⟨tm, htm⟩ : ∃ x, x = t - 1 := ⟨_, rfl⟩
      obtain ⟨fm, hfm⟩ : ∃ x, x = f - 1 := ⟨_, rfl⟩
      obtain ⟨z1', hz1'⟩ : ∃ x, x = byteX (rngs 0 L) fm := ⟨_, rfl⟩
      obtain ⟨z2', hz2'⟩ : ∃ x, x = byteX (rngs 0 L) t := ⟨_, rfl⟩
      have HB1 : Hid (∀ w', EntsAt w' b o L → Calls Tryd.prog 18 #[.slice p n c, .int .i64 (f : Int)] w' fun e w'' => e = .returned (.int .i64 r) ∧ w'' = w') := Lib.hid fun w' h => by
        have := HRB.out f w' h; rwa [HE4.out f (Nat.le_refl _) e1] at this
      have HB2 : Hid (∀ w', EntsAt w' b o L → Calls Tryd.prog 18 #[.slice p n c, .int .i64 (tm : Int)] w' fun e w'' => e = .returned (.int .i64 r) ∧ w'' = w') := Lib.hid fun w' h => by
        have := HRB.out tm w' h; rwa [HE4.out tm (by omega) (by omega)] at this
      have HB3 : Hid (∀ w', EntsAt w' b o L → Calls Tryd.prog 18 #[.slice p n c, .int .i64 (fm : Int)] w' fun e w'' => e = .returned (.int .i64 z1') ∧ w'' = w') := Lib.hid fun w' h => by
        have := HRB.out fm w' h; rwa [← hz1'] at this
      have HB4 : Hid (∀ w', EntsAt w' b o L → Calls Tryd.prog 18 #[.slice p n c, .int .i64 (t : Int)] w' fun e w'' => e = .returned (.int .i64 z2') ∧ w'' = w') := Lib.hid fun w' h => by
        have := HRB.out t w' h; rwa [← hz2'] at this
      have htm1 : tm + 1 = t := by omega
      have HWR := Lib.hid (And.intro (idw f (by omega)) (And.intro (idw t e2) (subw t tm htm1 e2)))
      have HFM := Lib.hid hfm
      have HZ1 := Lib.hid hz1'
      have HZ2 := Lib.hid hz2'
      have gr : (r != r) = false := by simp
      clear htm1 htm hfm hz1' hz2'
      go_upto_region 14 with (fail)
      go_cut [138] (fun v wx => v = .bool false ∧ wx = Z.drew)
      case first =>
        by_cases p1 : 0 < f
        · have g3 : decide ((0 : Int) < (f : Int)) = true := by rw [decide_eq_true_eq]; omega
          have hf12 := subw f fm (by have := HFM.out; omega) (by omega)
          have HF12 := Lib.hid hf12
          clear hf12
          have hne1 : z1' ≠ r := by rw [HZ1.out, HFM.out]; exact run_before HOK.out HX.out p1
          have g4 : (z1' == r) = false := by rw [Bool.eq_false_iff]; simp; exact hne1
          by_cases p2 : t < 4294967296
          · have g5 : decide ((t : Int) < 4294967296) = true := by rw [decide_eq_true_eq]; omega
            have hne2 : z2' ≠ r := by rw [HZ2.out]; exact run_behind HOK.out HX.out p2
            have g6 : (z2' == r) = false := by rw [Bool.eq_false_iff]; simp; exact hne2
            obtain ⟨⟨wf2, wf⟩, ⟨wt2, wt⟩, ht1, ht2⟩ := HWR.out
            obtain ⟨hf1, hf2⟩ := HF12.out
            refine wp_region_C (fun w' => EntsAt w' b o L ∧ w'.cell? ⟨b1, 0, none⟩ = some (.int .u64 (f : Int)) ∧ w'.cell? ⟨b1, 1, none⟩ = some (.int .u64 (t : Int)) ∧ w'.cell? ⟨b1, 2, none⟩ = some (.int .i64 r)) [(0, 0), (1, 0), (2, 1), (3, 0), (4, 1), (5, 0), (6, 1), (7, 0), (8, 0), (9, 0), (10, 0), (11, 1), (12, 0), (13, 0), (14, 1), (15, 0), (16, 1), (17, 0), (18, 0), (19, 0), (20, 0), (21, 1), (22, 0), (23, 0), (24, 0), (25, 0), (26, 1), (27, 0), (28, 0), (29, 1), (30, 0), (31, 1), (32, 0), (33, 0), (34, 0), (35, 0), (36, 0), (37, 1), (38, 0), (39, 0), (40, 0), (41, 0), (42, 1), (43, 0), (44, 1), (45, 0), (46, 1), (47, 0), (48, 0), (49, 0)] rfl (by kernel_rfl) ?hSTT ?hTTT
            case hSTT => exact ⟨HEZ.out.keep (Chg.refl _ _).drew, z0, z1, z2⟩
            refine wpT_pureD (v := ?_) (some 89) rfl rfl (by rfl) (fun w' => ?_) ?_
            rotate_left
            · (go_simp; try with_reducible rfl)
            try simp only [Act.put, List.setIfInBounds_toArray, List.set_cons_zero, List.set_cons_succ]
            refine wpT_pureD (v := ?_) (some 90) rfl rfl (by rfl) (fun w' => ?_) ?_
            rotate_left
            · (go_simp; try with_reducible rfl)
            try simp only [Act.put, List.setIfInBounds_toArray, List.set_cons_zero, List.set_cons_succ]
            refine wpT_readD (v := ?_) (some 91) rfl rfl (by rfl) (fun w' hw => ?_) ?_
            rotate_left
            · (obtain ⟨q0, q1, q2, q3⟩ := hw; go_simp; try with_reducible rfl)
            try simp only [Act.put, List.setIfInBounds_toArray, List.set_cons_zero, List.set_cons_succ]
            refine wpT_pureD (v := ?_) (some 92) rfl rfl (by rfl) (fun w' => ?_) ?_
            rotate_left
            · (go_simp; try with_reducible rfl)
            try simp only [Act.put, List.setIfInBounds_toArray, List.set_cons_zero, List.set_cons_succ]
            refine wpT_callS (d := some 93) (f := 18) (args := #[.slice p n c, .int .i64 (f : Int)]) (v := .int .i64 r) rfl rfl (by rfl) (fun w' => by first | rfl | (go_simp; done) | (go_simp; rfl)) (fun w' hS => HB1.out w' hS.1) ?_
            try simp only [Act.put, List.setIfInBounds_toArray, List.set_cons_zero, List.set_cons_succ]
            try simp only [Act.put, List.setIfInBounds_toArray, List.set_cons_zero, List.set_cons_succ]
            refine wpT_pureD (v := ?_) (some 94) rfl rfl (by rfl) (fun w' => ?_) ?_
            rotate_left
            · (go_simp; try with_reducible rfl)
            try simp only [Act.put, List.setIfInBounds_toArray, List.set_cons_zero, List.set_cons_succ]
            refine wpT_readD (v := ?_) (some 95) rfl rfl (by rfl) (fun w' hw => ?_) ?_
            rotate_left
            · (obtain ⟨q0, q1, q2, q3⟩ := hw; go_simp; try with_reducible rfl)
            try simp only [Act.put, List.setIfInBounds_toArray, List.set_cons_zero, List.set_cons_succ]
            refine wpT_pureD (v := ?_) (some 96) rfl rfl (by rfl) (fun w' => ?_) ?_
            rotate_left
            · (go_simp; try with_reducible rfl)
            try simp only [Act.put, List.setIfInBounds_toArray, List.set_cons_zero, List.set_cons_succ]
            refine wpT_pureD (v := ?_) (some 97) rfl rfl (by rfl) (fun w' => ?_) ?_
            rotate_left
            · (go_simp; try with_reducible rfl)
            try simp only [Act.put, List.setIfInBounds_toArray, List.set_cons_zero, List.set_cons_succ]
            refine wpT_pureD (v := ?_) (some 98) rfl rfl (by rfl) (fun w' => ?_) ?_
            rotate_left
            · (go_simp; try with_reducible rfl)
            try simp only [Act.put, List.setIfInBounds_toArray, List.set_cons_zero, List.set_cons_succ]
            refine wpT_pureD (v := ?_) (some 99) rfl rfl (by rfl) (fun w' => ?_) ?_
            rotate_left
            · (go_simp; try with_reducible rfl)
            try simp only [Act.put, List.setIfInBounds_toArray, List.set_cons_zero, List.set_cons_succ]
            refine wpT_readD (v := ?_) (some 100) rfl rfl (by rfl) (fun w' hw => ?_) ?_
            rotate_left
            · (obtain ⟨q0, q1, q2, q3⟩ := hw; go_simp; try with_reducible rfl)
            try simp only [Act.put, List.setIfInBounds_toArray, List.set_cons_zero, List.set_cons_succ]
            refine wpT_pureD (v := ?_) (some 101) rfl rfl (by rfl) (fun w' => ?_) ?_
            rotate_left
            · (go_simp; try with_reducible rfl)
            try simp only [Act.put, List.setIfInBounds_toArray, List.set_cons_zero, List.set_cons_succ]
            refine wpT_pureD (v := ?_) (some 102) rfl rfl (by rfl) (fun w' => ?_) ?_
            rotate_left
            · (go_simp; try with_reducible rfl)
            try simp only [Act.put, List.setIfInBounds_toArray, List.set_cons_zero, List.set_cons_succ]
            refine wpT_callS (d := some 103) (f := 18) (args := #[.slice p n c, .int .i64 (tm : Int)]) (v := .int .i64 r) rfl rfl (by rfl) (fun w' => by first | rfl | (go_simp; done) | (go_simp; rfl)) (fun w' hS => HB2.out w' hS.1) ?_
            try simp only [Act.put, List.setIfInBounds_toArray, List.set_cons_zero, List.set_cons_succ]
            try simp only [Act.put, List.setIfInBounds_toArray, List.set_cons_zero, List.set_cons_succ]
            refine wpT_pureD (v := ?_) (some 104) rfl rfl (by rfl) (fun w' => ?_) ?_
            rotate_left
            · (go_simp; try with_reducible rfl)
            try simp only [Act.put, List.setIfInBounds_toArray, List.set_cons_zero, List.set_cons_succ]
            refine wpT_readD (v := ?_) (some 105) rfl rfl (by rfl) (fun w' hw => ?_) ?_
            rotate_left
            · (obtain ⟨q0, q1, q2, q3⟩ := hw; go_simp; try with_reducible rfl)
            try simp only [Act.put, List.setIfInBounds_toArray, List.set_cons_zero, List.set_cons_succ]
            refine wpT_pureD (v := ?_) (some 106) rfl rfl (by rfl) (fun w' => ?_) ?_
            rotate_left
            · (go_simp; try with_reducible rfl)
            try simp only [Act.put, List.setIfInBounds_toArray, List.set_cons_zero, List.set_cons_succ]
            refine wpT_pureD (v := ?_) (some 107) rfl rfl (by rfl) (fun w' => ?_) ?_
            rotate_left
            · (go_simp; try with_reducible rfl)
            try simp only [Act.put, List.setIfInBounds_toArray, List.set_cons_zero, List.set_cons_succ]
            refine wpT_pureD (v := ?_) (some 108) rfl rfl (by rfl) (fun w' => ?_) ?_
            rotate_left
            · (go_simp; try with_reducible rfl)
            try simp only [Act.put, List.setIfInBounds_toArray, List.set_cons_zero, List.set_cons_succ]
            refine wpT_pureD (v := ?_) (some 109) rfl rfl (by rfl) (fun w' => ?_) ?_
            rotate_left
            · (go_simp; try with_reducible rfl)
            try simp only [Act.put, List.setIfInBounds_toArray, List.set_cons_zero, List.set_cons_succ]
            refine wpT_readD (v := ?_) (some 110) rfl rfl (by rfl) (fun w' hw => ?_) ?_
            rotate_left
            · (obtain ⟨q0, q1, q2, q3⟩ := hw; go_simp; try with_reducible rfl)
            try simp only [Act.put, List.setIfInBounds_toArray, List.set_cons_zero, List.set_cons_succ]
            refine wpT_pureD (v := ?_) (some 111) rfl rfl (by rfl) (fun w' => ?_) ?_
            rotate_left
            · (go_simp; try with_reducible rfl)
            try simp only [Act.put, List.setIfInBounds_toArray, List.set_cons_zero, List.set_cons_succ]
            refine wpT_pureD (v := ?_) (some 112) rfl rfl (by rfl) (fun w' => ?_) ?_
            rotate_left
            · (go_simp; try with_reducible rfl)
            try simp only [Act.put, List.setIfInBounds_toArray, List.set_cons_zero, List.set_cons_succ]
            refine wpT_pureD (v := ?_) (some 113) rfl rfl (by rfl) (fun w' => ?_) ?_
            rotate_left
            · (go_simp; try with_reducible rfl)
            try simp only [Act.put, List.setIfInBounds_toArray, List.set_cons_zero, List.set_cons_succ]
            refine wpT_pureD (v := ?_) (some 114) rfl rfl (by rfl) (fun w' => ?_) ?_
            rotate_left
            · (go_simp; try with_reducible rfl)
            try simp only [Act.put, List.setIfInBounds_toArray, List.set_cons_zero, List.set_cons_succ]
            refine wpT_readD (v := ?_) (some 115) rfl rfl (by rfl) (fun w' hw => ?_) ?_
            rotate_left
            · (obtain ⟨q0, q1, q2, q3⟩ := hw; go_simp; try with_reducible rfl)
            try simp only [Act.put, List.setIfInBounds_toArray, List.set_cons_zero, List.set_cons_succ]
            refine wpT_pureD (v := ?_) (some 116) rfl rfl (by rfl) (fun w' => ?_) ?_
            rotate_left
            · (go_simp; try with_reducible rfl)
            try simp only [Act.put, List.setIfInBounds_toArray, List.set_cons_zero, List.set_cons_succ]
            refine wpT_pureD (v := ?_) (some 117) rfl rfl (by rfl) (fun w' => ?_) ?_
            rotate_left
            · (go_simp; try with_reducible rfl)
            try simp only [Act.put, List.setIfInBounds_toArray, List.set_cons_zero, List.set_cons_succ]
            refine wpT_callS (d := some 118) (f := 18) (args := #[.slice p n c, .int .i64 (fm : Int)]) (v := .int .i64 z1') rfl rfl (by rfl) (fun w' => by first | rfl | (go_simp; done) | (go_simp; rfl)) (fun w' hS => HB3.out w' hS.1) ?_
            try simp only [Act.put, List.setIfInBounds_toArray, List.set_cons_zero, List.set_cons_succ]
            try simp only [Act.put, List.setIfInBounds_toArray, List.set_cons_zero, List.set_cons_succ]
            refine wpT_pureD (v := ?_) (some 119) rfl rfl (by rfl) (fun w' => ?_) ?_
            rotate_left
            · (go_simp; try with_reducible rfl)
            try simp only [Act.put, List.setIfInBounds_toArray, List.set_cons_zero, List.set_cons_succ]
            refine wpT_readD (v := ?_) (some 120) rfl rfl (by rfl) (fun w' hw => ?_) ?_
            rotate_left
            · (obtain ⟨q0, q1, q2, q3⟩ := hw; go_simp; try with_reducible rfl)
            try simp only [Act.put, List.setIfInBounds_toArray, List.set_cons_zero, List.set_cons_succ]
            refine wpT_pureD (v := ?_) (some 121) rfl rfl (by rfl) (fun w' => ?_) ?_
            rotate_left
            · (go_simp; try with_reducible rfl)
            try simp only [Act.put, List.setIfInBounds_toArray, List.set_cons_zero, List.set_cons_succ]
            refine wpT_pureD (v := ?_) (some 122) rfl rfl (by rfl) (fun w' => ?_) ?_
            rotate_left
            · (go_simp; try with_reducible rfl)
            try simp only [Act.put, List.setIfInBounds_toArray, List.set_cons_zero, List.set_cons_succ]
            refine wpT_pureD (v := ?_) (some 123) rfl rfl (by rfl) (fun w' => ?_) ?_
            rotate_left
            · (go_simp; try with_reducible rfl)
            try simp only [Act.put, List.setIfInBounds_toArray, List.set_cons_zero, List.set_cons_succ]
            refine wpT_pureD (v := ?_) (some 124) rfl rfl (by rfl) (fun w' => ?_) ?_
            rotate_left
            · (go_simp; try with_reducible rfl)
            try simp only [Act.put, List.setIfInBounds_toArray, List.set_cons_zero, List.set_cons_succ]
            refine wpT_pureD (v := ?_) (some 125) rfl rfl (by rfl) (fun w' => ?_) ?_
            rotate_left
            · (go_simp; try with_reducible rfl)
            try simp only [Act.put, List.setIfInBounds_toArray, List.set_cons_zero, List.set_cons_succ]
            refine wpT_readD (v := ?_) (some 126) rfl rfl (by rfl) (fun w' hw => ?_) ?_
            rotate_left
            · (obtain ⟨q0, q1, q2, q3⟩ := hw; go_simp; try with_reducible rfl)
            try simp only [Act.put, List.setIfInBounds_toArray, List.set_cons_zero, List.set_cons_succ]
            refine wpT_pureD (v := ?_) (some 127) rfl rfl (by rfl) (fun w' => ?_) ?_
            rotate_left
            · (go_simp; try with_reducible rfl)
            try simp only [Act.put, List.setIfInBounds_toArray, List.set_cons_zero, List.set_cons_succ]
            refine wpT_pureD (v := ?_) (some 128) rfl rfl (by rfl) (fun w' => ?_) ?_
            rotate_left
            · (go_simp; try with_reducible rfl)
            try simp only [Act.put, List.setIfInBounds_toArray, List.set_cons_zero, List.set_cons_succ]
            refine wpT_pureD (v := ?_) (some 129) rfl rfl (by rfl) (fun w' => ?_) ?_
            rotate_left
            · (go_simp; try with_reducible rfl)
            try simp only [Act.put, List.setIfInBounds_toArray, List.set_cons_zero, List.set_cons_succ]
            refine wpT_pureD (v := ?_) (some 130) rfl rfl (by rfl) (fun w' => ?_) ?_
            rotate_left
            · (go_simp; try with_reducible rfl)
            try simp only [Act.put, List.setIfInBounds_toArray, List.set_cons_zero, List.set_cons_succ]
            refine wpT_readD (v := ?_) (some 131) rfl rfl (by rfl) (fun w' hw => ?_) ?_
            rotate_left
            · (obtain ⟨q0, q1, q2, q3⟩ := hw; go_simp; try with_reducible rfl)
            try simp only [Act.put, List.setIfInBounds_toArray, List.set_cons_zero, List.set_cons_succ]
            refine wpT_pureD (v := ?_) (some 132) rfl rfl (by rfl) (fun w' => ?_) ?_
            rotate_left
            · (go_simp; try with_reducible rfl)
            try simp only [Act.put, List.setIfInBounds_toArray, List.set_cons_zero, List.set_cons_succ]
            refine wpT_callS (d := some 133) (f := 18) (args := #[.slice p n c, .int .i64 (t : Int)]) (v := .int .i64 z2') rfl rfl (by rfl) (fun w' => by first | rfl | (go_simp; done) | (go_simp; rfl)) (fun w' hS => HB4.out w' hS.1) ?_
            try simp only [Act.put, List.setIfInBounds_toArray, List.set_cons_zero, List.set_cons_succ]
            try simp only [Act.put, List.setIfInBounds_toArray, List.set_cons_zero, List.set_cons_succ]
            refine wpT_pureD (v := ?_) (some 134) rfl rfl (by rfl) (fun w' => ?_) ?_
            rotate_left
            · (go_simp; try with_reducible rfl)
            try simp only [Act.put, List.setIfInBounds_toArray, List.set_cons_zero, List.set_cons_succ]
            refine wpT_readD (v := ?_) (some 135) rfl rfl (by rfl) (fun w' hw => ?_) ?_
            rotate_left
            · (obtain ⟨q0, q1, q2, q3⟩ := hw; go_simp; try with_reducible rfl)
            try simp only [Act.put, List.setIfInBounds_toArray, List.set_cons_zero, List.set_cons_succ]
            refine wpT_pureD (v := ?_) (some 136) rfl rfl (by rfl) (fun w' => ?_) ?_
            rotate_left
            · (go_simp; try with_reducible rfl)
            try simp only [Act.put, List.setIfInBounds_toArray, List.set_cons_zero, List.set_cons_succ]
            refine wpT_pureD (v := ?_) (some 137) rfl rfl (by rfl) (fun w' => ?_) ?_
            rotate_left
            · (go_simp; try with_reducible rfl)
            try simp only [Act.put, List.setIfInBounds_toArray, List.set_cons_zero, List.set_cons_succ]
            refine wpT_pureD (v := ?_) (some 138) rfl rfl (by rfl) (fun w' => ?_) ?_
            rotate_left
            · (go_simp; try with_reducible rfl)
            try simp only [Act.put, List.setIfInBounds_toArray, List.set_cons_zero, List.set_cons_succ]
            refine wpT_end ?_
            go_wp2_with fail
            go_meet
            exact ⟨rfl, rfl⟩
          · have g5 : decide ((t : Int) < 4294967296) = false := by rw [decide_eq_false_iff_not]; omega
            obtain ⟨⟨wf2, wf⟩, ⟨wt2, wt⟩, ht1, ht2⟩ := HWR.out
            obtain ⟨hf1, hf2⟩ := HF12.out
            refine wp_region_C (fun w' => EntsAt w' b o L ∧ w'.cell? ⟨b1, 0, none⟩ = some (.int .u64 (f : Int)) ∧ w'.cell? ⟨b1, 1, none⟩ = some (.int .u64 (t : Int)) ∧ w'.cell? ⟨b1, 2, none⟩ = some (.int .i64 r)) [(0, 0), (1, 0), (2, 1), (3, 0), (4, 1), (5, 0), (6, 1), (7, 0), (8, 0), (9, 0), (10, 0), (11, 1), (12, 0), (13, 0), (14, 1), (15, 0), (16, 1), (17, 0), (18, 0), (19, 0), (20, 0), (21, 1), (22, 0), (23, 0), (24, 0), (25, 0), (26, 1), (27, 0), (28, 0), (29, 1), (30, 0), (31, 1), (32, 0), (33, 0), (34, 0), (35, 0), (36, 0), (37, 1), (38, 0), (39, 0), (40, 0), (41, 0), (42, 1), (43, 0), (44, 1), (45, 0), (46, 1), (47, 0), (48, 0), (49, 0)] rfl (by kernel_rfl) ?hSTF ?hTTF
            case hSTF => exact ⟨HEZ.out.keep (Chg.refl _ _).drew, z0, z1, z2⟩
            refine wpT_pureD (v := ?_) (some 89) rfl rfl (by rfl) (fun w' => ?_) ?_
            rotate_left
            · (go_simp; try with_reducible rfl)
            try simp only [Act.put, List.setIfInBounds_toArray, List.set_cons_zero, List.set_cons_succ]
            refine wpT_pureD (v := ?_) (some 90) rfl rfl (by rfl) (fun w' => ?_) ?_
            rotate_left
            · (go_simp; try with_reducible rfl)
            try simp only [Act.put, List.setIfInBounds_toArray, List.set_cons_zero, List.set_cons_succ]
            refine wpT_readD (v := ?_) (some 91) rfl rfl (by rfl) (fun w' hw => ?_) ?_
            rotate_left
            · (obtain ⟨q0, q1, q2, q3⟩ := hw; go_simp; try with_reducible rfl)
            try simp only [Act.put, List.setIfInBounds_toArray, List.set_cons_zero, List.set_cons_succ]
            refine wpT_pureD (v := ?_) (some 92) rfl rfl (by rfl) (fun w' => ?_) ?_
            rotate_left
            · (go_simp; try with_reducible rfl)
            try simp only [Act.put, List.setIfInBounds_toArray, List.set_cons_zero, List.set_cons_succ]
            refine wpT_callS (d := some 93) (f := 18) (args := #[.slice p n c, .int .i64 (f : Int)]) (v := .int .i64 r) rfl rfl (by rfl) (fun w' => by first | rfl | (go_simp; done) | (go_simp; rfl)) (fun w' hS => HB1.out w' hS.1) ?_
            try simp only [Act.put, List.setIfInBounds_toArray, List.set_cons_zero, List.set_cons_succ]
            try simp only [Act.put, List.setIfInBounds_toArray, List.set_cons_zero, List.set_cons_succ]
            refine wpT_pureD (v := ?_) (some 94) rfl rfl (by rfl) (fun w' => ?_) ?_
            rotate_left
            · (go_simp; try with_reducible rfl)
            try simp only [Act.put, List.setIfInBounds_toArray, List.set_cons_zero, List.set_cons_succ]
            refine wpT_readD (v := ?_) (some 95) rfl rfl (by rfl) (fun w' hw => ?_) ?_
            rotate_left
            · (obtain ⟨q0, q1, q2, q3⟩ := hw; go_simp; try with_reducible rfl)
            try simp only [Act.put, List.setIfInBounds_toArray, List.set_cons_zero, List.set_cons_succ]
            refine wpT_pureD (v := ?_) (some 96) rfl rfl (by rfl) (fun w' => ?_) ?_
            rotate_left
            · (go_simp; try with_reducible rfl)
            try simp only [Act.put, List.setIfInBounds_toArray, List.set_cons_zero, List.set_cons_succ]
            refine wpT_pureD (v := ?_) (some 97) rfl rfl (by rfl) (fun w' => ?_) ?_
            rotate_left
            · (go_simp; try with_reducible rfl)
            try simp only [Act.put, List.setIfInBounds_toArray, List.set_cons_zero, List.set_cons_succ]
            refine wpT_pureD (v := ?_) (some 98) rfl rfl (by rfl) (fun w' => ?_) ?_
            rotate_left
            · (go_simp; try with_reducible rfl)
            try simp only [Act.put, List.setIfInBounds_toArray, List.set_cons_zero, List.set_cons_succ]
            refine wpT_pureD (v := ?_) (some 99) rfl rfl (by rfl) (fun w' => ?_) ?_
            rotate_left
            · (go_simp; try with_reducible rfl)
            try simp only [Act.put, List.setIfInBounds_toArray, List.set_cons_zero, List.set_cons_succ]
            refine wpT_readD (v := ?_) (some 100) rfl rfl (by rfl) (fun w' hw => ?_) ?_
            rotate_left
            · (obtain ⟨q0, q1, q2, q3⟩ := hw; go_simp; try with_reducible rfl)
            try simp only [Act.put, List.setIfInBounds_toArray, List.set_cons_zero, List.set_cons_succ]
            refine wpT_pureD (v := ?_) (some 101) rfl rfl (by rfl) (fun w' => ?_) ?_
            rotate_left
            · (go_simp; try with_reducible rfl)
            try simp only [Act.put, List.setIfInBounds_toArray, List.set_cons_zero, List.set_cons_succ]
            refine wpT_pureD (v := ?_) (some 102) rfl rfl (by rfl) (fun w' => ?_) ?_
            rotate_left
            · (go_simp; try with_reducible rfl)
            try simp only [Act.put, List.setIfInBounds_toArray, List.set_cons_zero, List.set_cons_succ]
            refine wpT_callS (d := some 103) (f := 18) (args := #[.slice p n c, .int .i64 (tm : Int)]) (v := .int .i64 r) rfl rfl (by rfl) (fun w' => by first | rfl | (go_simp; done) | (go_simp; rfl)) (fun w' hS => HB2.out w' hS.1) ?_
            try simp only [Act.put, List.setIfInBounds_toArray, List.set_cons_zero, List.set_cons_succ]
            try simp only [Act.put, List.setIfInBounds_toArray, List.set_cons_zero, List.set_cons_succ]
            refine wpT_pureD (v := ?_) (some 104) rfl rfl (by rfl) (fun w' => ?_) ?_
            rotate_left
            · (go_simp; try with_reducible rfl)
            try simp only [Act.put, List.setIfInBounds_toArray, List.set_cons_zero, List.set_cons_succ]
            refine wpT_readD (v := ?_) (some 105) rfl rfl (by rfl) (fun w' hw => ?_) ?_
            rotate_left
            · (obtain ⟨q0, q1, q2, q3⟩ := hw; go_simp; try with_reducible rfl)
            try simp only [Act.put, List.setIfInBounds_toArray, List.set_cons_zero, List.set_cons_succ]
            refine wpT_pureD (v := ?_) (some 106) rfl rfl (by rfl) (fun w' => ?_) ?_
            rotate_left
            · (go_simp; try with_reducible rfl)
            try simp only [Act.put, List.setIfInBounds_toArray, List.set_cons_zero, List.set_cons_succ]
            refine wpT_pureD (v := ?_) (some 107) rfl rfl (by rfl) (fun w' => ?_) ?_
            rotate_left
            · (go_simp; try with_reducible rfl)
            try simp only [Act.put, List.setIfInBounds_toArray, List.set_cons_zero, List.set_cons_succ]
            refine wpT_pureD (v := ?_) (some 108) rfl rfl (by rfl) (fun w' => ?_) ?_
            rotate_left
            · (go_simp; try with_reducible rfl)
            try simp only [Act.put, List.setIfInBounds_toArray, List.set_cons_zero, List.set_cons_succ]
            refine wpT_pureD (v := ?_) (some 109) rfl rfl (by rfl) (fun w' => ?_) ?_
            rotate_left
            · (go_simp; try with_reducible rfl)
            try simp only [Act.put, List.setIfInBounds_toArray, List.set_cons_zero, List.set_cons_succ]
            refine wpT_readD (v := ?_) (some 110) rfl rfl (by rfl) (fun w' hw => ?_) ?_
            rotate_left
            · (obtain ⟨q0, q1, q2, q3⟩ := hw; go_simp; try with_reducible rfl)
            try simp only [Act.put, List.setIfInBounds_toArray, List.set_cons_zero, List.set_cons_succ]
            refine wpT_pureD (v := ?_) (some 111) rfl rfl (by rfl) (fun w' => ?_) ?_
            rotate_left
            · (go_simp; try with_reducible rfl)
            try simp only [Act.put, List.setIfInBounds_toArray, List.set_cons_zero, List.set_cons_succ]
            refine wpT_pureD (v := ?_) (some 112) rfl rfl (by rfl) (fun w' => ?_) ?_
            rotate_left
            · (go_simp; try with_reducible rfl)
            try simp only [Act.put, List.setIfInBounds_toArray, List.set_cons_zero, List.set_cons_succ]
            refine wpT_pureD (v := ?_) (some 113) rfl rfl (by rfl) (fun w' => ?_) ?_
            rotate_left
            · (go_simp; try with_reducible rfl)
            try simp only [Act.put, List.setIfInBounds_toArray, List.set_cons_zero, List.set_cons_succ]
            refine wpT_pureD (v := ?_) (some 114) rfl rfl (by rfl) (fun w' => ?_) ?_
            rotate_left
            · (go_simp; try with_reducible rfl)
            try simp only [Act.put, List.setIfInBounds_toArray, List.set_cons_zero, List.set_cons_succ]
            refine wpT_readD (v := ?_) (some 115) rfl rfl (by rfl) (fun w' hw => ?_) ?_
            rotate_left
            · (obtain ⟨q0, q1, q2, q3⟩ := hw; go_simp; try with_reducible rfl)
            try simp only [Act.put, List.setIfInBounds_toArray, List.set_cons_zero, List.set_cons_succ]
            refine wpT_pureD (v := ?_) (some 116) rfl rfl (by rfl) (fun w' => ?_) ?_
            rotate_left
            · (go_simp; try with_reducible rfl)
            try simp only [Act.put, List.setIfInBounds_toArray, List.set_cons_zero, List.set_cons_succ]
            refine wpT_pureD (v := ?_) (some 117) rfl rfl (by rfl) (fun w' => ?_) ?_
            rotate_left
            · (go_simp; try with_reducible rfl)
            try simp only [Act.put, List.setIfInBounds_toArray, List.set_cons_zero, List.set_cons_succ]
            refine wpT_callS (d := some 118) (f := 18) (args := #[.slice p n c, .int .i64 (fm : Int)]) (v := .int .i64 z1') rfl rfl (by rfl) (fun w' => by first | rfl | (go_simp; done) | (go_simp; rfl)) (fun w' hS => HB3.out w' hS.1) ?_
            try simp only [Act.put, List.setIfInBounds_toArray, List.set_cons_zero, List.set_cons_succ]
            try simp only [Act.put, List.setIfInBounds_toArray, List.set_cons_zero, List.set_cons_succ]
            refine wpT_pureD (v := ?_) (some 119) rfl rfl (by rfl) (fun w' => ?_) ?_
            rotate_left
            · (go_simp; try with_reducible rfl)
            try simp only [Act.put, List.setIfInBounds_toArray, List.set_cons_zero, List.set_cons_succ]
            refine wpT_readD (v := ?_) (some 120) rfl rfl (by rfl) (fun w' hw => ?_) ?_
            rotate_left
            · (obtain ⟨q0, q1, q2, q3⟩ := hw; go_simp; try with_reducible rfl)
            try simp only [Act.put, List.setIfInBounds_toArray, List.set_cons_zero, List.set_cons_succ]
            refine wpT_pureD (v := ?_) (some 121) rfl rfl (by rfl) (fun w' => ?_) ?_
            rotate_left
            · (go_simp; try with_reducible rfl)
            try simp only [Act.put, List.setIfInBounds_toArray, List.set_cons_zero, List.set_cons_succ]
            refine wpT_pureD (v := ?_) (some 122) rfl rfl (by rfl) (fun w' => ?_) ?_
            rotate_left
            · (go_simp; try with_reducible rfl)
            try simp only [Act.put, List.setIfInBounds_toArray, List.set_cons_zero, List.set_cons_succ]
            refine wpT_pureD (v := ?_) (some 123) rfl rfl (by rfl) (fun w' => ?_) ?_
            rotate_left
            · (go_simp; try with_reducible rfl)
            try simp only [Act.put, List.setIfInBounds_toArray, List.set_cons_zero, List.set_cons_succ]
            refine wpT_pureD (v := ?_) (some 124) rfl rfl (by rfl) (fun w' => ?_) ?_
            rotate_left
            · (go_simp; try with_reducible rfl)
            try simp only [Act.put, List.setIfInBounds_toArray, List.set_cons_zero, List.set_cons_succ]
            refine wpT_pureD (v := ?_) (some 125) rfl rfl (by rfl) (fun w' => ?_) ?_
            rotate_left
            · (go_simp; try with_reducible rfl)
            try simp only [Act.put, List.setIfInBounds_toArray, List.set_cons_zero, List.set_cons_succ]
            refine wpT_readD (v := ?_) (some 126) rfl rfl (by rfl) (fun w' hw => ?_) ?_
            rotate_left
            · (obtain ⟨q0, q1, q2, q3⟩ := hw; go_simp; try with_reducible rfl)
            try simp only [Act.put, List.setIfInBounds_toArray, List.set_cons_zero, List.set_cons_succ]
            refine wpT_pureD (v := ?_) (some 127) rfl rfl (by rfl) (fun w' => ?_) ?_
            rotate_left
            · (go_simp; try with_reducible rfl)
            try simp only [Act.put, List.setIfInBounds_toArray, List.set_cons_zero, List.set_cons_succ]
            refine wpT_pureD (v := ?_) (some 128) rfl rfl (by rfl) (fun w' => ?_) ?_
            rotate_left
            · (go_simp; try with_reducible rfl)
            try simp only [Act.put, List.setIfInBounds_toArray, List.set_cons_zero, List.set_cons_succ]
            refine wpT_skipE (some 129) rfl rfl (by rfl) ?_
            try simp only [Act.put, List.setIfInBounds_toArray, List.set_cons_zero, List.set_cons_succ]
            refine wpT_skipE (some 130) rfl rfl (by rfl) ?_
            try simp only [Act.put, List.setIfInBounds_toArray, List.set_cons_zero, List.set_cons_succ]
            refine wpT_skipE (some 131) rfl rfl (by rfl) ?_
            try simp only [Act.put, List.setIfInBounds_toArray, List.set_cons_zero, List.set_cons_succ]
            refine wpT_skipE (some 132) rfl rfl (by rfl) ?_
            try simp only [Act.put, List.setIfInBounds_toArray, List.set_cons_zero, List.set_cons_succ]
            refine wpT_skipE (some 133) rfl rfl (by rfl) ?_
            try simp only [Act.put, List.setIfInBounds_toArray, List.set_cons_zero, List.set_cons_succ]
            refine wpT_skipE (some 134) rfl rfl (by rfl) ?_
            try simp only [Act.put, List.setIfInBounds_toArray, List.set_cons_zero, List.set_cons_succ]
            refine wpT_skipE (some 135) rfl rfl (by rfl) ?_
            try simp only [Act.put, List.setIfInBounds_toArray, List.set_cons_zero, List.set_cons_succ]
            refine wpT_skipE (some 136) rfl rfl (by rfl) ?_
            try simp only [Act.put, List.setIfInBounds_toArray, List.set_cons_zero, List.set_cons_succ]
            refine wpT_pureD (v := ?_) (some 137) rfl rfl (by rfl) (fun w' => ?_) ?_
            rotate_left
            · (go_simp; try with_reducible rfl)
            try simp only [Act.put, List.setIfInBounds_toArray, List.set_cons_zero, List.set_cons_succ]
            refine wpT_pureD (v := ?_) (some 138) rfl rfl (by rfl) (fun w' => ?_) ?_
            rotate_left
            · (go_simp; try with_reducible rfl)
            try simp only [Act.put, List.setIfInBounds_toArray, List.set_cons_zero, List.set_cons_succ]
            refine wpT_end ?_
            go_wp2_with fail
            go_meet
            exact ⟨rfl, rfl⟩
        · have g3 : decide ((0 : Int) < (f : Int)) = false := by rw [decide_eq_false_iff_not]; omega
          have hf0 : f = 0 := by omega
          by_cases p2 : t < 4294967296
          · have g5 : decide ((t : Int) < 4294967296) = true := by rw [decide_eq_true_eq]; omega
            have hne2 : z2' ≠ r := by rw [HZ2.out]; exact run_behind HOK.out HX.out p2
            have g6 : (z2' == r) = false := by rw [Bool.eq_false_iff]; simp; exact hne2
            clear hf0
            obtain ⟨⟨wf2, wf⟩, ⟨wt2, wt⟩, ht1, ht2⟩ := HWR.out
            refine wp_region_C (fun w' => EntsAt w' b o L ∧ w'.cell? ⟨b1, 0, none⟩ = some (.int .u64 (f : Int)) ∧ w'.cell? ⟨b1, 1, none⟩ = some (.int .u64 (t : Int)) ∧ w'.cell? ⟨b1, 2, none⟩ = some (.int .i64 r)) [(0, 0), (1, 0), (2, 1), (3, 0), (4, 1), (5, 0), (6, 1), (7, 0), (8, 0), (9, 0), (10, 0), (11, 1), (12, 0), (13, 0), (14, 1), (15, 0), (16, 1), (17, 0), (18, 0), (19, 0), (20, 0), (21, 1), (22, 0), (23, 0), (24, 0), (25, 0), (26, 1), (27, 0), (28, 0), (29, 1), (30, 0), (31, 1), (32, 0), (33, 0), (34, 0), (35, 0), (36, 0), (37, 1), (38, 0), (39, 0), (40, 0), (41, 0), (42, 1), (43, 0), (44, 1), (45, 0), (46, 1), (47, 0), (48, 0), (49, 0)] rfl (by kernel_rfl) ?hSFT ?hTFT
            case hSFT => exact ⟨HEZ.out.keep (Chg.refl _ _).drew, z0, z1, z2⟩
            refine wpT_pureD (v := ?_) (some 89) rfl rfl (by rfl) (fun w' => ?_) ?_
            rotate_left
            · (go_simp; try with_reducible rfl)
            try simp only [Act.put, List.setIfInBounds_toArray, List.set_cons_zero, List.set_cons_succ]
            refine wpT_pureD (v := ?_) (some 90) rfl rfl (by rfl) (fun w' => ?_) ?_
            rotate_left
            · (go_simp; try with_reducible rfl)
            try simp only [Act.put, List.setIfInBounds_toArray, List.set_cons_zero, List.set_cons_succ]
            refine wpT_readD (v := ?_) (some 91) rfl rfl (by rfl) (fun w' hw => ?_) ?_
            rotate_left
            · (obtain ⟨q0, q1, q2, q3⟩ := hw; go_simp; try with_reducible rfl)
            try simp only [Act.put, List.setIfInBounds_toArray, List.set_cons_zero, List.set_cons_succ]
            refine wpT_pureD (v := ?_) (some 92) rfl rfl (by rfl) (fun w' => ?_) ?_
            rotate_left
            · (go_simp; try with_reducible rfl)
            try simp only [Act.put, List.setIfInBounds_toArray, List.set_cons_zero, List.set_cons_succ]
            refine wpT_callS (d := some 93) (f := 18) (args := #[.slice p n c, .int .i64 (f : Int)]) (v := .int .i64 r) rfl rfl (by rfl) (fun w' => by first | rfl | (go_simp; done) | (go_simp; rfl)) (fun w' hS => HB1.out w' hS.1) ?_
            try simp only [Act.put, List.setIfInBounds_toArray, List.set_cons_zero, List.set_cons_succ]
            try simp only [Act.put, List.setIfInBounds_toArray, List.set_cons_zero, List.set_cons_succ]
            refine wpT_pureD (v := ?_) (some 94) rfl rfl (by rfl) (fun w' => ?_) ?_
            rotate_left
            · (go_simp; try with_reducible rfl)
            try simp only [Act.put, List.setIfInBounds_toArray, List.set_cons_zero, List.set_cons_succ]
            refine wpT_readD (v := ?_) (some 95) rfl rfl (by rfl) (fun w' hw => ?_) ?_
            rotate_left
            · (obtain ⟨q0, q1, q2, q3⟩ := hw; go_simp; try with_reducible rfl)
            try simp only [Act.put, List.setIfInBounds_toArray, List.set_cons_zero, List.set_cons_succ]
            refine wpT_pureD (v := ?_) (some 96) rfl rfl (by rfl) (fun w' => ?_) ?_
            rotate_left
            · (go_simp; try with_reducible rfl)
            try simp only [Act.put, List.setIfInBounds_toArray, List.set_cons_zero, List.set_cons_succ]
            refine wpT_pureD (v := ?_) (some 97) rfl rfl (by rfl) (fun w' => ?_) ?_
            rotate_left
            · (go_simp; try with_reducible rfl)
            try simp only [Act.put, List.setIfInBounds_toArray, List.set_cons_zero, List.set_cons_succ]
            refine wpT_pureD (v := ?_) (some 98) rfl rfl (by rfl) (fun w' => ?_) ?_
            rotate_left
            · (go_simp; try with_reducible rfl)
            try simp only [Act.put, List.setIfInBounds_toArray, List.set_cons_zero, List.set_cons_succ]
            refine wpT_pureD (v := ?_) (some 99) rfl rfl (by rfl) (fun w' => ?_) ?_
            rotate_left
            · (go_simp; try with_reducible rfl)
            try simp only [Act.put, List.setIfInBounds_toArray, List.set_cons_zero, List.set_cons_succ]
            refine wpT_readD (v := ?_) (some 100) rfl rfl (by rfl) (fun w' hw => ?_) ?_
            rotate_left
            · (obtain ⟨q0, q1, q2, q3⟩ := hw; go_simp; try with_reducible rfl)
            try simp only [Act.put, List.setIfInBounds_toArray, List.set_cons_zero, List.set_cons_succ]
            refine wpT_pureD (v := ?_) (some 101) rfl rfl (by rfl) (fun w' => ?_) ?_
            rotate_left
            · (go_simp; try with_reducible rfl)
            try simp only [Act.put, List.setIfInBounds_toArray, List.set_cons_zero, List.set_cons_succ]
            refine wpT_pureD (v := ?_) (some 102) rfl rfl (by rfl) (fun w' => ?_) ?_
            rotate_left
            · (go_simp; try with_reducible rfl)
            try simp only [Act.put, List.setIfInBounds_toArray, List.set_cons_zero, List.set_cons_succ]
            refine wpT_callS (d := some 103) (f := 18) (args := #[.slice p n c, .int .i64 (tm : Int)]) (v := .int .i64 r) rfl rfl (by rfl) (fun w' => by first | rfl | (go_simp; done) | (go_simp; rfl)) (fun w' hS => HB2.out w' hS.1) ?_
            try simp only [Act.put, List.setIfInBounds_toArray, List.set_cons_zero, List.set_cons_succ]
            try simp only [Act.put, List.setIfInBounds_toArray, List.set_cons_zero, List.set_cons_succ]
            refine wpT_pureD (v := ?_) (some 104) rfl rfl (by rfl) (fun w' => ?_) ?_
            rotate_left
            · (go_simp; try with_reducible rfl)
            try simp only [Act.put, List.setIfInBounds_toArray, List.set_cons_zero, List.set_cons_succ]
            refine wpT_readD (v := ?_) (some 105) rfl rfl (by rfl) (fun w' hw => ?_) ?_
            rotate_left
            · (obtain ⟨q0, q1, q2, q3⟩ := hw; go_simp; try with_reducible rfl)
            try simp only [Act.put, List.setIfInBounds_toArray, List.set_cons_zero, List.set_cons_succ]
            refine wpT_pureD (v := ?_) (some 106) rfl rfl (by rfl) (fun w' => ?_) ?_
            rotate_left
            · (go_simp; try with_reducible rfl)
            try simp only [Act.put, List.setIfInBounds_toArray, List.set_cons_zero, List.set_cons_succ]
            refine wpT_pureD (v := ?_) (some 107) rfl rfl (by rfl) (fun w' => ?_) ?_
            rotate_left
            · (go_simp; try with_reducible rfl)
            try simp only [Act.put, List.setIfInBounds_toArray, List.set_cons_zero, List.set_cons_succ]
            refine wpT_pureD (v := ?_) (some 108) rfl rfl (by rfl) (fun w' => ?_) ?_
            rotate_left
            · (go_simp; try with_reducible rfl)
            try simp only [Act.put, List.setIfInBounds_toArray, List.set_cons_zero, List.set_cons_succ]
            refine wpT_pureD (v := ?_) (some 109) rfl rfl (by rfl) (fun w' => ?_) ?_
            rotate_left
            · (go_simp; try with_reducible rfl)
            try simp only [Act.put, List.setIfInBounds_toArray, List.set_cons_zero, List.set_cons_succ]
            refine wpT_readD (v := ?_) (some 110) rfl rfl (by rfl) (fun w' hw => ?_) ?_
            rotate_left
            · (obtain ⟨q0, q1, q2, q3⟩ := hw; go_simp; try with_reducible rfl)
            try simp only [Act.put, List.setIfInBounds_toArray, List.set_cons_zero, List.set_cons_succ]
            refine wpT_pureD (v := ?_) (some 111) rfl rfl (by rfl) (fun w' => ?_) ?_
            rotate_left
            · (go_simp; try with_reducible rfl)
            try simp only [Act.put, List.setIfInBounds_toArray, List.set_cons_zero, List.set_cons_succ]
            refine wpT_pureD (v := ?_) (some 112) rfl rfl (by rfl) (fun w' => ?_) ?_
            rotate_left
            · (go_simp; try with_reducible rfl)
            try simp only [Act.put, List.setIfInBounds_toArray, List.set_cons_zero, List.set_cons_succ]
            refine wpT_skipE (some 113) rfl rfl (by rfl) ?_
            try simp only [Act.put, List.setIfInBounds_toArray, List.set_cons_zero, List.set_cons_succ]
            refine wpT_skipE (some 114) rfl rfl (by rfl) ?_
            try simp only [Act.put, List.setIfInBounds_toArray, List.set_cons_zero, List.set_cons_succ]
            refine wpT_skipE (some 115) rfl rfl (by rfl) ?_
            try simp only [Act.put, List.setIfInBounds_toArray, List.set_cons_zero, List.set_cons_succ]
            refine wpT_skipE (some 116) rfl rfl (by rfl) ?_
            try simp only [Act.put, List.setIfInBounds_toArray, List.set_cons_zero, List.set_cons_succ]
            refine wpT_skipE (some 117) rfl rfl (by rfl) ?_
            try simp only [Act.put, List.setIfInBounds_toArray, List.set_cons_zero, List.set_cons_succ]
            refine wpT_skipE (some 118) rfl rfl (by rfl) ?_
            try simp only [Act.put, List.setIfInBounds_toArray, List.set_cons_zero, List.set_cons_succ]
            refine wpT_skipE (some 119) rfl rfl (by rfl) ?_
            try simp only [Act.put, List.setIfInBounds_toArray, List.set_cons_zero, List.set_cons_succ]
            refine wpT_skipE (some 120) rfl rfl (by rfl) ?_
            try simp only [Act.put, List.setIfInBounds_toArray, List.set_cons_zero, List.set_cons_succ]
            refine wpT_skipE (some 121) rfl rfl (by rfl) ?_
            try simp only [Act.put, List.setIfInBounds_toArray, List.set_cons_zero, List.set_cons_succ]
            refine wpT_pureD (v := ?_) (some 122) rfl rfl (by rfl) (fun w' => ?_) ?_
            rotate_left
            · (go_simp; try with_reducible rfl)
            try simp only [Act.put, List.setIfInBounds_toArray, List.set_cons_zero, List.set_cons_succ]
            refine wpT_pureD (v := ?_) (some 123) rfl rfl (by rfl) (fun w' => ?_) ?_
            rotate_left
            · (go_simp; try with_reducible rfl)
            try simp only [Act.put, List.setIfInBounds_toArray, List.set_cons_zero, List.set_cons_succ]
            refine wpT_pureD (v := ?_) (some 124) rfl rfl (by rfl) (fun w' => ?_) ?_
            rotate_left
            · (go_simp; try with_reducible rfl)
            try simp only [Act.put, List.setIfInBounds_toArray, List.set_cons_zero, List.set_cons_succ]
            refine wpT_pureD (v := ?_) (some 125) rfl rfl (by rfl) (fun w' => ?_) ?_
            rotate_left
            · (go_simp; try with_reducible rfl)
            try simp only [Act.put, List.setIfInBounds_toArray, List.set_cons_zero, List.set_cons_succ]
            refine wpT_readD (v := ?_) (some 126) rfl rfl (by rfl) (fun w' hw => ?_) ?_
            rotate_left
            · (obtain ⟨q0, q1, q2, q3⟩ := hw; go_simp; try with_reducible rfl)
            try simp only [Act.put, List.setIfInBounds_toArray, List.set_cons_zero, List.set_cons_succ]
            refine wpT_pureD (v := ?_) (some 127) rfl rfl (by rfl) (fun w' => ?_) ?_
            rotate_left
            · (go_simp; try with_reducible rfl)
            try simp only [Act.put, List.setIfInBounds_toArray, List.set_cons_zero, List.set_cons_succ]
            refine wpT_pureD (v := ?_) (some 128) rfl rfl (by rfl) (fun w' => ?_) ?_
            rotate_left
            · (go_simp; try with_reducible rfl)
            try simp only [Act.put, List.setIfInBounds_toArray, List.set_cons_zero, List.set_cons_succ]
            refine wpT_pureD (v := ?_) (some 129) rfl rfl (by rfl) (fun w' => ?_) ?_
            rotate_left
            · (go_simp; try with_reducible rfl)
            try simp only [Act.put, List.setIfInBounds_toArray, List.set_cons_zero, List.set_cons_succ]
            refine wpT_pureD (v := ?_) (some 130) rfl rfl (by rfl) (fun w' => ?_) ?_
            rotate_left
            · (go_simp; try with_reducible rfl)
            try simp only [Act.put, List.setIfInBounds_toArray, List.set_cons_zero, List.set_cons_succ]
            refine wpT_readD (v := ?_) (some 131) rfl rfl (by rfl) (fun w' hw => ?_) ?_
            rotate_left
            · (obtain ⟨q0, q1, q2, q3⟩ := hw; go_simp; try with_reducible rfl)
            try simp only [Act.put, List.setIfInBounds_toArray, List.set_cons_zero, List.set_cons_succ]
            refine wpT_pureD (v := ?_) (some 132) rfl rfl (by rfl) (fun w' => ?_) ?_
            rotate_left
            · (go_simp; try with_reducible rfl)
            try simp only [Act.put, List.setIfInBounds_toArray, List.set_cons_zero, List.set_cons_succ]
            refine wpT_callS (d := some 133) (f := 18) (args := #[.slice p n c, .int .i64 (t : Int)]) (v := .int .i64 z2') rfl rfl (by rfl) (fun w' => by first | rfl | (go_simp; done) | (go_simp; rfl)) (fun w' hS => HB4.out w' hS.1) ?_
            try simp only [Act.put, List.setIfInBounds_toArray, List.set_cons_zero, List.set_cons_succ]
            try simp only [Act.put, List.setIfInBounds_toArray, List.set_cons_zero, List.set_cons_succ]
            refine wpT_pureD (v := ?_) (some 134) rfl rfl (by rfl) (fun w' => ?_) ?_
            rotate_left
            · (go_simp; try with_reducible rfl)
            try simp only [Act.put, List.setIfInBounds_toArray, List.set_cons_zero, List.set_cons_succ]
            refine wpT_readD (v := ?_) (some 135) rfl rfl (by rfl) (fun w' hw => ?_) ?_
            rotate_left
            · (obtain ⟨q0, q1, q2, q3⟩ := hw; go_simp; try with_reducible rfl)
            try simp only [Act.put, List.setIfInBounds_toArray, List.set_cons_zero, List.set_cons_succ]
            refine wpT_pureD (v := ?_) (some 136) rfl rfl (by rfl) (fun w' => ?_) ?_
            rotate_left
            · (go_simp; try with_reducible rfl)
            try simp only [Act.put, List.setIfInBounds_toArray, List.set_cons_zero, List.set_cons_succ]
            refine wpT_pureD (v := ?_) (some 137) rfl rfl (by rfl) (fun w' => ?_) ?_
            rotate_left
            · (go_simp; try with_reducible rfl)
            try simp only [Act.put, List.setIfInBounds_toArray, List.set_cons_zero, List.set_cons_succ]
            refine wpT_pureD (v := ?_) (some 138) rfl rfl (by rfl) (fun w' => ?_) ?_
            rotate_left
            · (go_simp; try with_reducible rfl)
            try simp only [Act.put, List.setIfInBounds_toArray, List.set_cons_zero, List.set_cons_succ]
            refine wpT_end ?_
            go_wp2_with fail
            go_meet
            exact ⟨rfl, rfl⟩
          · have g5 : decide ((t : Int) < 4294967296) = false := by rw [decide_eq_false_iff_not]; omega
            clear hf0
            obtain ⟨⟨wf2, wf⟩, ⟨wt2, wt⟩, ht1, ht2⟩ := HWR.out
            refine wp_region_C (fun w' => EntsAt w' b o L ∧ w'.cell? ⟨b1, 0, none⟩ = some (.int .u64 (f : Int)) ∧ w'.cell? ⟨b1, 1, none⟩ = some (.int .u64 (t : Int)) ∧ w'.cell? ⟨b1, 2, none⟩ = some (.int .i64 r)) [(0, 0), (1, 0), (2, 1), (3, 0), (4, 1), (5, 0), (6, 1), (7, 0), (8, 0), (9, 0), (10, 0), (11, 1), (12, 0), (13, 0), (14, 1), (15, 0), (16, 1), (17, 0), (18, 0), (19, 0), (20, 0), (21, 1), (22, 0), (23, 0), (24, 0), (25, 0), (26, 1), (27, 0), (28, 0), (29, 1), (30, 0), (31, 1), (32, 0), (33, 0), (34, 0), (35, 0), (36, 0), (37, 1), (38, 0), (39, 0), (40, 0), (41, 0), (42, 1), (43, 0), (44, 1), (45, 0), (46, 1), (47, 0), (48, 0), (49, 0)] rfl (by kernel_rfl) ?hSFF ?hTFF
            case hSFF => exact ⟨HEZ.out.keep (Chg.refl _ _).drew, z0, z1, z2⟩
            refine wpT_pureD (v := ?_) (some 89) rfl rfl (by rfl) (fun w' => ?_) ?_
            rotate_left
            · (go_simp; try with_reducible rfl)
            try simp only [Act.put, List.setIfInBounds_toArray, List.set_cons_zero, List.set_cons_succ]
            refine wpT_pureD (v := ?_) (some 90) rfl rfl (by rfl) (fun w' => ?_) ?_
            rotate_left
            · (go_simp; try with_reducible rfl)
            try simp only [Act.put, List.setIfInBounds_toArray, List.set_cons_zero, List.set_cons_succ]
            refine wpT_readD (v := ?_) (some 91) rfl rfl (by rfl) (fun w' hw => ?_) ?_
            rotate_left
            · (obtain ⟨q0, q1, q2, q3⟩ := hw; go_simp; try with_reducible rfl)
            try simp only [Act.put, List.setIfInBounds_toArray, List.set_cons_zero, List.set_cons_succ]
            refine wpT_pureD (v := ?_) (some 92) rfl rfl (by rfl) (fun w' => ?_) ?_
            rotate_left
            · (go_simp; try with_reducible rfl)
            try simp only [Act.put, List.setIfInBounds_toArray, List.set_cons_zero, List.set_cons_succ]
            refine wpT_callS (d := some 93) (f := 18) (args := #[.slice p n c, .int .i64 (f : Int)]) (v := .int .i64 r) rfl rfl (by rfl) (fun w' => by first | rfl | (go_simp; done) | (go_simp; rfl)) (fun w' hS => HB1.out w' hS.1) ?_
            try simp only [Act.put, List.setIfInBounds_toArray, List.set_cons_zero, List.set_cons_succ]
            try simp only [Act.put, List.setIfInBounds_toArray, List.set_cons_zero, List.set_cons_succ]
            refine wpT_pureD (v := ?_) (some 94) rfl rfl (by rfl) (fun w' => ?_) ?_
            rotate_left
            · (go_simp; try with_reducible rfl)
            try simp only [Act.put, List.setIfInBounds_toArray, List.set_cons_zero, List.set_cons_succ]
            refine wpT_readD (v := ?_) (some 95) rfl rfl (by rfl) (fun w' hw => ?_) ?_
            rotate_left
            · (obtain ⟨q0, q1, q2, q3⟩ := hw; go_simp; try with_reducible rfl)
            try simp only [Act.put, List.setIfInBounds_toArray, List.set_cons_zero, List.set_cons_succ]
            refine wpT_pureD (v := ?_) (some 96) rfl rfl (by rfl) (fun w' => ?_) ?_
            rotate_left
            · (go_simp; try with_reducible rfl)
            try simp only [Act.put, List.setIfInBounds_toArray, List.set_cons_zero, List.set_cons_succ]
            refine wpT_pureD (v := ?_) (some 97) rfl rfl (by rfl) (fun w' => ?_) ?_
            rotate_left
            · (go_simp; try with_reducible rfl)
            try simp only [Act.put, List.setIfInBounds_toArray, List.set_cons_zero, List.set_cons_succ]
            refine wpT_pureD (v := ?_) (some 98) rfl rfl (by rfl) (fun w' => ?_) ?_
            rotate_left
            · (go_simp; try with_reducible rfl)
            try simp only [Act.put, List.setIfInBounds_toArray, List.set_cons_zero, List.set_cons_succ]
            refine wpT_pureD (v := ?_) (some 99) rfl rfl (by rfl) (fun w' => ?_) ?_
            rotate_left
            · (go_simp; try with_reducible rfl)
            try simp only [Act.put, List.setIfInBounds_toArray, List.set_cons_zero, List.set_cons_succ]
            refine wpT_readD (v := ?_) (some 100) rfl rfl (by rfl) (fun w' hw => ?_) ?_
            rotate_left
            · (obtain ⟨q0, q1, q2, q3⟩ := hw; go_simp; try with_reducible rfl)
            try simp only [Act.put, List.setIfInBounds_toArray, List.set_cons_zero, List.set_cons_succ]
            refine wpT_pureD (v := ?_) (some 101) rfl rfl (by rfl) (fun w' => ?_) ?_
            rotate_left
            · (go_simp; try with_reducible rfl)
            try simp only [Act.put, List.setIfInBounds_toArray, List.set_cons_zero, List.set_cons_succ]
            refine wpT_pureD (v := ?_) (some 102) rfl rfl (by rfl) (fun w' => ?_) ?_
            rotate_left
            · (go_simp; try with_reducible rfl)
            try simp only [Act.put, List.setIfInBounds_toArray, List.set_cons_zero, List.set_cons_succ]
            refine wpT_callS (d := some 103) (f := 18) (args := #[.slice p n c, .int .i64 (tm : Int)]) (v := .int .i64 r) rfl rfl (by rfl) (fun w' => by first | rfl | (go_simp; done) | (go_simp; rfl)) (fun w' hS => HB2.out w' hS.1) ?_
            try simp only [Act.put, List.setIfInBounds_toArray, List.set_cons_zero, List.set_cons_succ]
            try simp only [Act.put, List.setIfInBounds_toArray, List.set_cons_zero, List.set_cons_succ]
            refine wpT_pureD (v := ?_) (some 104) rfl rfl (by rfl) (fun w' => ?_) ?_
            rotate_left
            · (go_simp; try with_reducible rfl)
            try simp only [Act.put, List.setIfInBounds_toArray, List.set_cons_zero, List.set_cons_succ]
            refine wpT_readD (v := ?_) (some 105) rfl rfl (by rfl) (fun w' hw => ?_) ?_
            rotate_left
            · (obtain ⟨q0, q1, q2, q3⟩ := hw; go_simp; try with_reducible rfl)
            try simp only [Act.put, List.setIfInBounds_toArray, List.set_cons_zero, List.set_cons_succ]
            refine wpT_pureD (v := ?_) (some 106) rfl rfl (by rfl) (fun w' => ?_) ?_
            rotate_left
            · (go_simp; try with_reducible rfl)
            try simp only [Act.put, List.setIfInBounds_toArray, List.set_cons_zero, List.set_cons_succ]
            refine wpT_pureD (v := ?_) (some 107) rfl rfl (by rfl) (fun w' => ?_) ?_
            rotate_left
            · (go_simp; try with_reducible rfl)
            try simp only [Act.put, List.setIfInBounds_toArray, List.set_cons_zero, List.set_cons_succ]
            refine wpT_pureD (v := ?_) (some 108) rfl rfl (by rfl) (fun w' => ?_) ?_
            rotate_left
            · (go_simp; try with_reducible rfl)
            try simp only [Act.put, List.setIfInBounds_toArray, List.set_cons_zero, List.set_cons_succ]
            refine wpT_pureD (v := ?_) (some 109) rfl rfl (by rfl) (fun w' => ?_) ?_
            rotate_left
            · (go_simp; try with_reducible rfl)
            try simp only [Act.put, List.setIfInBounds_toArray, List.set_cons_zero, List.set_cons_succ]
            refine wpT_readD (v := ?_) (some 110) rfl rfl (by rfl) (fun w' hw => ?_) ?_
            rotate_left
            · (obtain ⟨q0, q1, q2, q3⟩ := hw; go_simp; try with_reducible rfl)
            try simp only [Act.put, List.setIfInBounds_toArray, List.set_cons_zero, List.set_cons_succ]
            refine wpT_pureD (v := ?_) (some 111) rfl rfl (by rfl) (fun w' => ?_) ?_
            rotate_left
            · (go_simp; try with_reducible rfl)
            try simp only [Act.put, List.setIfInBounds_toArray, List.set_cons_zero, List.set_cons_succ]
            refine wpT_pureD (v := ?_) (some 112) rfl rfl (by rfl) (fun w' => ?_) ?_
            rotate_left
            · (go_simp; try with_reducible rfl)
            try simp only [Act.put, List.setIfInBounds_toArray, List.set_cons_zero, List.set_cons_succ]
            refine wpT_skipE (some 113) rfl rfl (by rfl) ?_
            try simp only [Act.put, List.setIfInBounds_toArray, List.set_cons_zero, List.set_cons_succ]
            refine wpT_skipE (some 114) rfl rfl (by rfl) ?_
            try simp only [Act.put, List.setIfInBounds_toArray, List.set_cons_zero, List.set_cons_succ]
            refine wpT_skipE (some 115) rfl rfl (by rfl) ?_
            try simp only [Act.put, List.setIfInBounds_toArray, List.set_cons_zero, List.set_cons_succ]
            refine wpT_skipE (some 116) rfl rfl (by rfl) ?_
            try simp only [Act.put, List.setIfInBounds_toArray, List.set_cons_zero, List.set_cons_succ]
            refine wpT_skipE (some 117) rfl rfl (by rfl) ?_
            try simp only [Act.put, List.setIfInBounds_toArray, List.set_cons_zero, List.set_cons_succ]
            refine wpT_skipE (some 118) rfl rfl (by rfl) ?_
            try simp only [Act.put, List.setIfInBounds_toArray, List.set_cons_zero, List.set_cons_succ]
            refine wpT_skipE (some 119) rfl rfl (by rfl) ?_
            try simp only [Act.put, List.setIfInBounds_toArray, List.set_cons_zero, List.set_cons_succ]
            refine wpT_skipE (some 120) rfl rfl (by rfl) ?_
            try simp only [Act.put, List.setIfInBounds_toArray, List.set_cons_zero, List.set_cons_succ]
            refine wpT_skipE (some 121) rfl rfl (by rfl) ?_
            try simp only [Act.put, List.setIfInBounds_toArray, List.set_cons_zero, List.set_cons_succ]
            refine wpT_pureD (v := ?_) (some 122) rfl rfl (by rfl) (fun w' => ?_) ?_
            rotate_left
            · (go_simp; try with_reducible rfl)
            try simp only [Act.put, List.setIfInBounds_toArray, List.set_cons_zero, List.set_cons_succ]
            refine wpT_pureD (v := ?_) (some 123) rfl rfl (by rfl) (fun w' => ?_) ?_
            rotate_left
            · (go_simp; try with_reducible rfl)
            try simp only [Act.put, List.setIfInBounds_toArray, List.set_cons_zero, List.set_cons_succ]
            refine wpT_pureD (v := ?_) (some 124) rfl rfl (by rfl) (fun w' => ?_) ?_
            rotate_left
            · (go_simp; try with_reducible rfl)
            try simp only [Act.put, List.setIfInBounds_toArray, List.set_cons_zero, List.set_cons_succ]
            refine wpT_pureD (v := ?_) (some 125) rfl rfl (by rfl) (fun w' => ?_) ?_
            rotate_left
            · (go_simp; try with_reducible rfl)
            try simp only [Act.put, List.setIfInBounds_toArray, List.set_cons_zero, List.set_cons_succ]
            refine wpT_readD (v := ?_) (some 126) rfl rfl (by rfl) (fun w' hw => ?_) ?_
            rotate_left
            · (obtain ⟨q0, q1, q2, q3⟩ := hw; go_simp; try with_reducible rfl)
            try simp only [Act.put, List.setIfInBounds_toArray, List.set_cons_zero, List.set_cons_succ]
            refine wpT_pureD (v := ?_) (some 127) rfl rfl (by rfl) (fun w' => ?_) ?_
            rotate_left
            · (go_simp; try with_reducible rfl)
            try simp only [Act.put, List.setIfInBounds_toArray, List.set_cons_zero, List.set_cons_succ]
            refine wpT_pureD (v := ?_) (some 128) rfl rfl (by rfl) (fun w' => ?_) ?_
            rotate_left
            · (go_simp; try with_reducible rfl)
            try simp only [Act.put, List.setIfInBounds_toArray, List.set_cons_zero, List.set_cons_succ]
            refine wpT_skipE (some 129) rfl rfl (by rfl) ?_
            try simp only [Act.put, List.setIfInBounds_toArray, List.set_cons_zero, List.set_cons_succ]
            refine wpT_skipE (some 130) rfl rfl (by rfl) ?_
            try simp only [Act.put, List.setIfInBounds_toArray, List.set_cons_zero, List.set_cons_succ]
            refine wpT_skipE (some 131) rfl rfl (by rfl) ?_
            try simp only [Act.put, List.setIfInBounds_toArray, List.set_cons_zero, List.set_cons_succ]
            refine wpT_skipE (some 132) rfl rfl (by rfl) ?_
            try simp only [Act.put, List.setIfInBounds_toArray, List.set_cons_zero, List.set_cons_succ]
            refine wpT_skipE (some 133) rfl rfl (by rfl) ?_
            try simp only [Act.put, List.setIfInBounds_toArray, List.set_cons_zero, List.set_cons_succ]
            refine wpT_skipE (some 134) rfl rfl (by rfl) ?_
            try simp only [Act.put, List.setIfInBounds_toArray, List.set_cons_zero, List.set_cons_succ]
            refine wpT_skipE (some 135) rfl rfl (by rfl) ?_
            try simp only [Act.put, List.setIfInBounds_toArray, List.set_cons_zero, List.set_cons_succ]
            refine wpT_skipE (some 136) rfl rfl (by rfl) ?_
            try simp only [Act.put, List.setIfInBounds_toArray, List.set_cons_zero, List.set_cons_succ]
            refine wpT_pureD (v := ?_) (some 137) rfl rfl (by rfl) (fun w' => ?_) ?_
            rotate_left
            · (go_simp; try with_reducible rfl)
            try simp only [Act.put, List.setIfInBounds_toArray, List.set_cons_zero, List.set_cons_succ]
            refine wpT_pureD (v := ?_) (some 138) rfl rfl (by rfl) (fun w' => ?_) ?_
            rotate_left
            · (go_simp; try with_reducible rfl)
            try simp only [Act.put, List.setIfInBounds_toArray, List.set_cons_zero, List.set_cons_succ]
            refine wpT_end ?_
            go_wp2_with fail
            go_meet
            exact ⟨rfl, rfl⟩
      case rest =>
      obtain ⟨rfl, hwx⟩ := hcut
      obtain rfl := hwx
      go_wp2
      case roundEnd => exact ⟨⟨k + 1, HK.out, by rw [HW.out], rfl, HCZ.out.drew⟩, by rw [HW.out]; simp only [intOf, Int.toNat_natCast]; have := HK.out; omega⟩
    · have dk : decide ((k : Int) < (m : Int)) = false := by rw [decide_eq_false_iff_not]; omega
      have hkm : k = m := by omega
      have hfull : R.take k = R := List.take_of_length_le (by have := HM.out; omega)
      have hb := HRB.out q wr (HE3.out.keep HC.out)
      rw [← hasR_byte HOK.out q HQ.out] at hb
      rw [hfull]
      obtain ⟨z, hz⟩ : ∃ z, z = hasR R q := ⟨_, rfl⟩
      rw [← hz] at hb ⊢
      have HBB := Lib.hid hb
      have wq : wrap64 (q : Int) = (q : Int) := IntWalk.wrap64_in _ ⟨by omega, by have := HQ.out; omega⟩
      clear hb hz hfull hkm
      go_wp2_with fail
      refine HBB.out.mono ?_
      rintro e w' ⟨rfl, rfl⟩
      go_wp2
      go_ret
      exact ⟨by simp, HC3.out.trans HC.out⟩
end Go.Proofs.L
