/- Proved here: lemmas and contracts (R26) for the laws of this seat, for all values of the stated types; no further condition. -/
import Derived.Test.YtjiiojbenbldlaaR25
import Derived.Test.YtjiiojbenbldlaaR24
open Go Go.RowKit Go.Lib
namespace Go.Proofs.L
attribute [local irreducible] wpT
theorem store_b0 (f : Nat → Nat) (b x : Nat) (hx : x < 4294967296) (w : World) (hw : w.row? b = some (mem f)) : Calls Try.prog 17 #[.pointer (some ⟨b, 0, none⟩), .int .u32 2147487744, .int .i64 4, .int .u32 (x : Int)] w fun e w' => e = .returned (.int .i64 0) ∧ w'.row? b = some (mem (stN f 4096 x 4)) ∧ Chg [b] w w' := by
  have h := store4_any f 2147487744 b x (by decide) hx w hw
  have e : sdN f 2147487744 x = (stN f 4096 x 4, 0) := by unfold sdN; rw [if_pos (by decide)]; rfl
  rw [e] at h
  exact h
theorem store_b4 (f : Nat → Nat) (b x : Nat) (hx : x < 4294967296) (w : World) (hw : w.row? b = some (mem f)) : Calls Try.prog 17 #[.pointer (some ⟨b, 0, none⟩), .int .u32 2147487748, .int .i64 4, .int .u32 (x : Int)] w fun e w' => e = .returned (.int .i64 0) ∧ w'.row? b = some (mem (stN f 4100 x 4)) ∧ Chg [b] w w' := by
  have h := store4_any f 2147487748 b x (by decide) hx w hw
  have e : sdN f 2147487748 x = (stN f 4100 x 4, 0) := by unfold sdN; rw [if_pos (by decide)]; rfl
  rw [e] at h
  exact h
theorem load_b0 (f : Nat → Nat) (hf : ∀ i, f i < 256) (b x : Nat) (w : World) (hw : w.row? b = some (mem f)) (hx : leN f 4096 4 = x) : Calls Try.prog 13 #[.pointer (some ⟨b, 0, none⟩), .int .u32 2147487744, .int .i64 4] w fun e w' => e = .returned (.tuple #[.int .u32 (x : Int), .int .i64 0]) ∧ Chg [] w w' := by
  have h := load4_any f hf 2147487744 b (by decide) w hw
  rw [ld0, hx] at h
  exact h
theorem load_b4 (f : Nat → Nat) (hf : ∀ i, f i < 256) (b x : Nat) (w : World) (hw : w.row? b = some (mem f)) (hx : leN f 4100 4 = x) : Calls Try.prog 13 #[.pointer (some ⟨b, 0, none⟩), .int .u32 2147487748, .int .i64 4] w fun e w' => e = .returned (.tuple #[.int .u32 (x : Int), .int .i64 0]) ∧ Chg [] w w' := by
  have h := load4_any f hf 2147487748 b (by decide) w hw
  rw [ld4, hx] at h
  exact h
theorem call_pair {w4 : World} {mb nY : Nat} {Rs : List Rl} {Ys : List Nat} {f g : Nat → Nat} {rr yr : Array Value} (hM : w4.row? mb = some (mem f)) (hf : ∀ i, f i < 256) (hrr : rr = (Rs.flatMap RlC).toArray) (hyr : yr = (Ys.map fun x : Nat => Value.int .u32 (x : Int)).toArray) (hn : Rs.length = 2) (hy : Ys.length = nY) (hb : ∀ r ∈ Rs, r.at_ < 4294967296 ∧ r.add < 4294967296) (hyb : ∀ x ∈ Ys, x < 4294967296)
    (hap : applyN 2147487744 Rs Ys [⟨2147487744, 8, 0⟩] Rs f = (0, g)) {V : World} (hV : V = ((((w4.alloc (.cells yr 24)).alloc (.cells rr 32)).alloc (.cells #[.int .u32 0, .slice none 0 0, .slice (some ⟨w4.heap.size + 1, 0, none⟩) 2 2, .slice (some ⟨w4.heap.size, 0, none⟩) nY nY] 30)).alloc (.cells #[.int .u32 2147487744, .int .u32 8, .int .i64 0] 52))) :
    Chg [] w4 V ∧ Calls Try.prog 11 #[.pointer (some ⟨mb, 0, none⟩), .agg #[.int .u32 0, .slice none 0 0, .slice (some ⟨w4.heap.size + 1, 0, none⟩) 2 2, .slice (some ⟨w4.heap.size, 0, none⟩) nY nY], .int .u32 2147487744, .slice (some ⟨w4.heap.size + 1 + 1 + 1, 0, none⟩) 1 1] V fun e w' => e = .returned (.int .i64 0) ∧ w'.row? mb = some (mem g) ∧ Chg [mb] V w' := by
  have hml := row_lt hM
  have hc : Chg [] w4 V := by rw [hV]; exact ((((Chg.refl _ _).alloc _).alloc _).alloc _).alloc _
  refine ⟨hc, ?_⟩
  have hrY : V.row? w4.heap.size = some yr := by rw [hV, row_alloc_past _ _ _ (by simp; omega), row_alloc_past _ _ _ (by simp; omega), row_alloc_past _ _ _ (by simp)]; exact row_alloc_at _ _ _ _ rfl
  have hrR : V.row? (w4.heap.size + 1) = some rr := by rw [hV, row_alloc_past _ _ _ (by simp), row_alloc_past _ _ _ (by simp)]; exact row_alloc_at _ _ _ _ (by simp)
  have hrS : V.row? (w4.heap.size + 1 + 1 + 1) = some #[.int .u32 2147487744, .int .u32 8, .int .i64 0] := by rw [hV]; exact row_alloc_at _ _ _ _ (by simp)
  have hrM : V.row? mb = some (mem f) := by rw [hc.row hml (by simp)]; exact hM
  have h := apply_rows (bias := 2147487744) (Rs := Rs) (Ys := Ys) (Ss := [⟨2147487744, 8, 0⟩]) (nR := 2) (cR := 2) (nY := nY) (cY := nY) (cS := 1) (e := .int .u32 0) (sg := .slice none 0 0) (pY := some ⟨w4.heap.size, 0, none⟩) (hrr ▸ hrR) hn hb (nat_row (hyr ▸ hrY) hyb) hy (fun _ => rfl) hrS rfl (by decide) (by decide) hrM hf (by omega) (by omega) (by omega) (by decide) (by decide)
  rw [hap] at h
  exact h
theorem Chg.transM {w V w3 : World} {mb : Nat} (h1 : Chg [] w V) (h2 : Chg [mb] V w3) (hm : w.heap.size ≤ mb) : Chg [] w w3 := h1.trans2 h2 (Chg.refl _ _) hm
set_option maxRecDepth 100000 in
set_option maxHeartbeats 16000000 in
theorem pairs_walk (w : World) (v add a0 a1 : Nat) (hv : v < 4294967296) (hadd : add < 4294967296) (h0 : a0 < 4294967296) (h1 : a1 < 4294967296) : Calls Try.prog 4 #[.int .u32 (v : Int), .int .u32 (add : Int), .agg #[.int .u32 (a0 : Int), .int .u32 (a1 : Int)]] w fun e w' => e = .returned (.bool true) ∧ Chg [] w w' := by
  have HV := Lib.hid hv
  have HA := Lib.hid hadd
  have H0 := Lib.hid h0
  have H1 := Lib.hid h1
  clear hv hadd h0 h1
  go_enter Try.func4, Try.ntmps4
  go_wp2_with fail
  obtain ⟨W0, hW0⟩ : ∃ W, W = w.alloc (.cells #[.int .u32 (a0 : Int), .int .u32 (a1 : Int)] 48) := ⟨_, rfl⟩
  rw [← hW0]
  obtain ⟨Pb, hPb⟩ : ∃ b, b = w.heap.size := ⟨_, rfl⟩
  rw [← hPb]
  have HC0 : Hid (Chg [] w W0) := Lib.hid (by rw [hW0]; exact (Chg.refl _ _).alloc _)
  have HP0 : Hid (W0.row? Pb = some #[.int .u32 (a0 : Int), .int .u32 (a1 : Int)]) := Lib.hid (by rw [hW0]; exact row_alloc_at _ _ _ _ hPb)
  clear hW0 hPb
  refine (fit_any W0).mono ?_
  rintro e w1 ⟨rfl, hc1⟩
  have HC1 := Lib.hid (HC0.out.trans hc1)
  have HP1 : Hid (w1.row? Pb = _) := Lib.hid ((hc1.row (row_lt HP0.out) (by simp)).trans HP0.out)
  clear hc1
  go_wp2_with fail
  refine (new_ok w1).mono ?_
  rintro e w2 ⟨rfl, hw2⟩
  have HR2 : Hid (w2.row? w1.heap.size = some (mem zN)) := Lib.hid (by rw [hw2]; exact new_row w1)
  have HC2 : Hid (Chg [] w1 w2) := Lib.hid (by rw [hw2]; exact (Chg.refl _ _).alloc _)
  have HP2 : Hid (w2.row? Pb = _) := Lib.hid ((HC2.out.row (row_lt HP1.out) (by simp)).trans HP1.out)
  have HM : Hid (w.heap.size ≤ w1.heap.size ∧ Pb < w1.heap.size) := Lib.hid ⟨HC1.out.size, row_lt HP1.out⟩
  have HCC : Hid (Chg [] w w2) := Lib.hid (HC1.out.trans HC2.out)
  obtain ⟨mb, hmb⟩ : ∃ b, b = w1.heap.size := ⟨_, rfl⟩
  rw [← hmb] at HR2 HM ⊢
  have HPM : Hid (Pb ≠ mb) := Lib.hid (Nat.ne_of_lt HM.out.2)
  clear hw2 hmb
  have cA : w2.cell? ⟨Pb, 0, none⟩ = some (.int .u32 (a0 : Int)) := by rw [row_cell HP2.out]; rfl
  go_wp2_with fail
  refine (store_b0 zN mb a0 H0.out w2 HR2.out).mono ?_
  rintro e w3 ⟨rfl, hr3, hc3⟩
  have HR3 := Lib.hid hr3
  have HC3 := Lib.hid (HCC.out.transM hc3 HM.out.1)
  have HP3 : Hid (w3.row? Pb = _) := Lib.hid ((hc3.row (row_lt HP2.out) (by simpa using HPM.out)).trans HP2.out)
  clear cA hr3 hc3
  have cA : w3.cell? ⟨Pb, 1, none⟩ = some (.int .u32 (a1 : Int)) := by rw [row_cell HP3.out]; rfl
  go_wp2_with fail
  refine (store_b4 _ mb a1 H1.out w3 HR3.out).mono ?_
  rintro e w4 ⟨rfl, hr4, hc4⟩
  have HR4 : Hid (w4.row? mb = some (mem (M0 a0 a1))) := Lib.hid hr4
  have HC4 := Lib.hid (HC3.out.transM hc4 HM.out.1)
  have HP4 : Hid (w4.row? Pb = _) := Lib.hid ((hc4.row (row_lt HP3.out) (by simpa using HPM.out)).trans HP3.out)
  clear cA hr4 hc4
  go_wp2_with fail
  obtain ⟨V, hV⟩ : ∃ V, V = ((((w4.alloc (.cells #[.int .u32 0, .int .u32 (v : Int), .int .u32 0] 24)).alloc (.cells #[.int .u32 0, .int .i64 23, .int .i64 1, .int .u32 (add : Int), .int .u32 4, .int .i64 24, .int .i64 2, .int .u32 0] 32)).alloc (.cells #[.int .u32 0, .slice none 0 0, .slice (some ⟨w4.heap.size + 1, 0, none⟩) 2 2, .slice (some ⟨w4.heap.size, 0, none⟩) 3 3] 30)).alloc (.cells #[.int .u32 2147487744, .int .u32 8, .int .i64 0] 52)) := ⟨_, rfl⟩
  obtain ⟨dd, hdd⟩ : ∃ d, d = subw (wantN v add) 2147487744 := ⟨_, rfl⟩
  have HAP := call_pair HR4.out (M0_lt a0 a1) (Rs := R1 add) (Ys := [0, v, 0]) (nY := 3) rfl rfl rfl rfl (by intro r hr; have := HA.out; simp only [R1, List.mem_cons, List.not_mem_nil, or_false] at hr; rcases hr with rfl | rfl <;> simp <;> omega) (by intro x hx; have := HV.out; simp only [List.mem_cons, List.not_mem_nil, or_false] at hx; omega) (pairs1 a0 a1 v add dd (M0 a0 a1) (M0_lo _ _ H0.out) (M0_hi _ _ H1.out) hdd) hV
  have HAP1 := Lib.hid HAP.1
  have HAP2 := Lib.hid HAP.2
  have HDD := Lib.hid hdd
  clear HAP hdd
  rw [← hV]
  clear hV
  refine HAP2.out.mono ?_
  rintro e w5 ⟨rfl, hr5, hc5⟩
  have HR5 := Lib.hid hr5
  have HC5 := Lib.hid ((HC4.out.trans HAP1.out).transM hc5 HM.out.1)
  have hPV : V.row? Pb = some #[.int .u32 (a0 : Int), .int .u32 (a1 : Int)] := (HAP1.out.row (row_lt HP4.out) (by simp)).trans HP4.out
  have HP5 : Hid (w5.row? Pb = some #[.int .u32 (a0 : Int), .int .u32 (a1 : Int)]) := Lib.hid ((hc5.row (row_lt hPV) (by simpa using HPM.out)).trans hPV)
  clear hPV hr5 hc5
  obtain ⟨A, hA⟩ : ∃ A, A = setU a0 (upN dd) := ⟨_, rfl⟩
  obtain ⟨B, hB⟩ : ∃ B, B = setI a1 dd := ⟨_, rfl⟩
  have hAl : A < 4294967296 := by rw [hA]; exact setU_lt _ _ (upN_lt _)
  have hBl : B < 4294967296 := by rw [hB]; exact setI_lt _ _
  have HKA : Hid (A % 4096 = a0 % 4096) := Lib.hid (by rw [hA]; exact kU _ _)
  have HKB : Hid (B % 1048576 = a1 % 1048576) := Lib.hid (by rw [hB]; exact kI _ _)
  have hwl : wantN v add < 4294967296 := Nat.mod_lt _ (by decide)
  have hs1 := sum1 a0 a1 dd (wantN v add) hwl HDD.out
  rw [← hA, ← hB] at hs1
  obtain ⟨x1, hx1⟩ : ∃ x, x = rU A := ⟨_, rfl⟩
  obtain ⟨x2, hx2⟩ : ∃ x, x = rI B := ⟨_, rfl⟩
  have hb1 := rU_bd A hAl
  have hb2 := rI_bd B
  rw [← hx1, ← hx2] at hs1
  rw [← hx1] at hb1
  rw [← hx2] at hb2
  have WA : Hid (wrap64 (A : Int) = (A : Int)) := Lib.hid (IntWalk.wrap64_in _ ⟨by omega, by omega⟩)
  have WB : Hid (wrap64 (B : Int) = (B : Int)) := Lib.hid (IntWalk.wrap64_in _ ⟨by omega, by omega⟩)
  have WY : Hid (wrap64 (2147487744 + x1) = 2147487744 + x1) := Lib.hid (IntWalk.wrap64_in _ ⟨by omega, by omega⟩)
  have WZ : Hid (wrap64 (2147487744 + x1 + x2) = 2147487744 + x1 + x2) := Lib.hid (IntWalk.wrap64_in _ ⟨by omega, by omega⟩)
  have HX1 := Lib.hid hx1
  have HX2 := Lib.hid hx2
  have HS1 := Lib.hid hs1
  have HAl := Lib.hid hAl
  have HBl := Lib.hid hBl
  have HAe := Lib.hid hA
  have HBe := Lib.hid hB
  clear hA hB hx1 hx2 hs1 hAl hBl hb1 hb2 hwl
  go_wp2_with fail
  refine (load_b0 _ (M1_lt a0 a1 dd _ (M0_lt a0 a1)) mb A w5 HR5.out (by rw [M1_lo]; exact HAe.out.symm)).mono ?_
  rintro e w6 ⟨rfl, hc6⟩
  have HC6 := Lib.hid (HC5.out.trans hc6)
  have HP6 : Hid (w6.row? Pb = some #[.int .u32 (a0 : Int), .int .u32 (a1 : Int)]) := Lib.hid ((hc6.row (row_lt HP5.out) (by simp)).trans HP5.out)
  have HR6 : Hid (w6.row? mb = _) := Lib.hid ((hc6.row (row_lt HR5.out) (by simp)).trans HR5.out)
  clear hc6
  go_wp2_with fail
  refine (load_b4 _ (M1_lt a0 a1 dd _ (M0_lt a0 a1)) mb B w6 HR6.out (by rw [M1_hi]; exact HBe.out.symm)).mono ?_
  rintro e w7 ⟨rfl, hc7⟩
  have HC7 := Lib.hid (HC6.out.trans hc7)
  have HP7 : Hid (w7.row? Pb = some #[.int .u32 (a0 : Int), .int .u32 (a1 : Int)]) := Lib.hid ((hc7.row (row_lt HP6.out) (by simp)).trans HP6.out)
  have HR7 : Hid (w7.row? mb = _) := Lib.hid ((hc7.row (row_lt HR6.out) (by simp)).trans HR6.out)
  clear hc7
  have wa := WA.out
  go_wp2_with fail
  refine (rimm_U A HAl.out w7).mono ?_
  rintro e w8 ⟨rfl, hw8⟩
  obtain rfl := hw8.symm
  have hq : sgn 32 (A / 4096 * 4096) = x1 := HX1.out.symm
  rw [hq]
  clear wa hq
  have wb := WB.out
  have wy := WY.out
  go_wp2_with fail
  refine (rimm_I B HBl.out w7).mono ?_
  rintro e w8 ⟨rfl, hc8⟩
  have hq : sgn 12 (B / 1048576 % 4096) = x2 := HX2.out.symm
  rw [hq]
  have HC8 := Lib.hid (HC7.out.trans hc8)
  have HP8 : Hid (w8.row? Pb = some #[.int .u32 (a0 : Int), .int .u32 (a1 : Int)]) := Lib.hid ((hc8.row (row_lt HP7.out) (by simp)).trans HP7.out)
  have HR8 : Hid (w8.row? mb = _) := Lib.hid ((hc8.row (row_lt HR7.out) (by simp)).trans HR7.out)
  clear hq wb hc8
  have wz := WZ.out
  go_wp2_with fail
  clear wy wz
  obtain ⟨V2, hV⟩ : ∃ V, V = ((((w8.alloc (.cells #[.int .u32 0, .int .u32 (v : Int)] 24)).alloc (.cells #[.int .u32 0, .int .i64 26, .int .i64 1, .int .u32 (add : Int), .int .u32 4, .int .i64 28, .int .i64 1, .int .u32 (add : Int)] 32)).alloc (.cells #[.int .u32 0, .slice none 0 0, .slice (some ⟨w8.heap.size + 1, 0, none⟩) 2 2, .slice (some ⟨w8.heap.size, 0, none⟩) 2 2] 30)).alloc (.cells #[.int .u32 2147487744, .int .u32 8, .int .i64 0] 52)) := ⟨_, rfl⟩
  obtain ⟨want, hwant⟩ : ∃ d, d = wantN v add := ⟨_, rfl⟩
  have HAP := call_pair HR8.out (M1_lt a0 a1 dd _ (M0_lt a0 a1)) (Rs := R2 add) (Ys := [0, v]) (nY := 2) rfl rfl rfl rfl (by intro r hr; have := HA.out; simp only [R2, List.mem_cons, List.not_mem_nil, or_false] at hr; rcases hr with rfl | rfl <;> simp <;> omega) (by intro x hx; have := HV.out; simp only [List.mem_cons, List.not_mem_nil, or_false] at hx; omega) (pairs2 A B v add (M1 a0 a1 dd (M0 a0 a1)) (by rw [M1_lo]; exact HAe.out.symm) (by rw [M1_hi]; exact HBe.out.symm)) hV
  rw [← hwant] at HAP
  have HAP3 := Lib.hid HAP.1
  have HAP4 := Lib.hid HAP.2
  have HW := Lib.hid hwant
  clear HAP hwant
  rw [← hV]
  clear hV
  refine HAP4.out.mono ?_
  rintro e w9 ⟨rfl, hr9, hc9⟩
  have HR9 := Lib.hid hr9
  have HC9 := Lib.hid ((HC8.out.trans HAP3.out).transM hc9 HM.out.1)
  have hPV : V2.row? Pb = some #[.int .u32 (a0 : Int), .int .u32 (a1 : Int)] := (HAP3.out.row (row_lt HP8.out) (by simp)).trans HP8.out
  have HP9 : Hid (w9.row? Pb = some #[.int .u32 (a0 : Int), .int .u32 (a1 : Int)]) := Lib.hid ((hc9.row (row_lt hPV) (by simpa using HPM.out)).trans hPV)
  clear hPV hr9 hc9
  obtain ⟨C, hC⟩ : ∃ c, c = setU A (upN want) := ⟨_, rfl⟩
  obtain ⟨D, hD⟩ : ∃ D, D = setS B want := ⟨_, rfl⟩
  have hCl : C < 4294967296 := by rw [hC]; exact setU_lt _ _ (upN_lt _)
  have hDl : D < 4294967296 := by rw [hD]; exact setS_lt _ _
  have hwl : want < 4294967296 := by rw [HW.out]; exact Nat.mod_lt _ (by decide)
  have hs2 := sum2 A B want hwl
  rw [← hC, ← hD] at hs2
  obtain ⟨x3, hx3⟩ : ∃ x, x = rU C := ⟨_, rfl⟩
  obtain ⟨x4, hx4⟩ : ∃ x, x = rS D := ⟨_, rfl⟩
  have hb1 := rU_bd C hCl
  have hb2 := rS_bd D
  rw [← hx3, ← hx4] at hs2
  rw [← hx3] at hb1
  rw [← hx4] at hb2
  have WC : Hid (wrap64 (C : Int) = (C : Int)) := Lib.hid (IntWalk.wrap64_in _ ⟨by omega, by omega⟩)
  have WD : Hid (wrap64 (D : Int) = (D : Int)) := Lib.hid (IntWalk.wrap64_in _ ⟨by omega, by omega⟩)
  have WQ : Hid (wrap64 (x3 + x4) = x3 + x4) := Lib.hid (IntWalk.wrap64_in _ ⟨by omega, by omega⟩)
  have HX3 := Lib.hid hx3
  have HX4 := Lib.hid hx4
  have HS2 := Lib.hid hs2
  have HCl := Lib.hid hCl
  have HDl := Lib.hid hDl
  have HCe := Lib.hid hC
  have HDe := Lib.hid hD
  clear hC hD hx3 hx4 hs2 hCl hDl hb1 hb2
  have HK0 : Hid (bits .and .u32 (A : Int) 4095 = ((a0 % 4096 : Nat) : Int)) := Lib.hid (by rw [← HKA.out]; have := and32m A 4095 (by decide); rw [show A &&& 4095 = A % 4096 from Nat.and_two_pow_sub_one_eq_mod A 12] at this; exact this)
  have HK1 : Hid (bits .and .u32 (a0 : Int) 4095 = ((a0 % 4096 : Nat) : Int)) := Lib.hid (by have := and32m a0 4095 (by decide); rw [show a0 &&& 4095 = a0 % 4096 from Nat.and_two_pow_sub_one_eq_mod a0 12] at this; exact this)
  have HK2 : Hid (bits .and .u32 (B : Int) 1048575 = ((a1 % 1048576 : Nat) : Int)) := Lib.hid (by rw [← HKB.out]; have := and32m B 1048575 (by decide); rw [show B &&& 1048575 = B % 1048576 from Nat.and_two_pow_sub_one_eq_mod B 20] at this; exact this)
  have HK3 : Hid (bits .and .u32 (a1 : Int) 1048575 = ((a1 % 1048576 : Nat) : Int)) := Lib.hid (by have := and32m a1 1048575 (by decide); rw [show a1 &&& 1048575 = a1 % 1048576 from Nat.and_two_pow_sub_one_eq_mod a1 20] at this; exact this)
  obtain ⟨t1, ht1⟩ : ∃ t, t = (2147487744 + v) % 4294967296 := ⟨_, rfl⟩
  have HT1 : Hid (IntKind.u32.wrap (2147487744 + (v : Int)) = (t1 : Int)) := Lib.hid (addw_wrap (x := 2147487744) ht1)
  have HT2 : Hid (IntKind.u32.wrap ((t1 : Int) + (add : Int)) = (want : Int)) := Lib.hid (addw_wrap (by rw [HW.out, ht1]; rfl))
  clear ht1 hwl
  go_wp2_with fail
  refine (load_b0 _ (M2_lt A B want _ (M1_lt a0 a1 dd _ (M0_lt a0 a1))) mb C w9 HR9.out (by rw [M2_lo]; exact HCe.out.symm)).mono ?_
  rintro e w10 ⟨rfl, hc10⟩
  have HC10 := Lib.hid (HC9.out.trans hc10)
  have HP10 : Hid (w10.row? Pb = some #[.int .u32 (a0 : Int), .int .u32 (a1 : Int)]) := Lib.hid ((hc10.row (row_lt HP9.out) (by simp)).trans HP9.out)
  have HR10 : Hid (w10.row? mb = _) := Lib.hid ((hc10.row (row_lt HR9.out) (by simp)).trans HR9.out)
  clear hc10
  go_wp2_with fail
  refine (load_b4 _ (M2_lt A B want _ (M1_lt a0 a1 dd _ (M0_lt a0 a1))) mb D w10 HR10.out (by rw [M2_hi]; exact HDe.out.symm)).mono ?_
  rintro e w11 ⟨rfl, hc11⟩
  have HC11 := Lib.hid (HC10.out.trans hc11)
  have HP11 : Hid (w11.row? Pb = some #[.int .u32 (a0 : Int), .int .u32 (a1 : Int)]) := Lib.hid ((hc11.row (row_lt HP10.out) (by simp)).trans HP10.out)
  clear hc11
  have q1 := HT1.out
  have q2 := HT2.out
  have q3 : (2147487744 + x1 + x2) % 4294967296 = (want : Int) := by rw [HW.out]; exact HS1.out
  have q5 : wrap64 (2147487744 + x1 + x2) % 4294967296 = (want : Int) := by rw [WZ.out]; exact q3
  have wc := WC.out
  go_wp2_with fail
  refine (rimm_U C HCl.out w11).mono ?_
  rintro e w12 ⟨rfl, hw12⟩
  obtain rfl := hw12.symm
  have hq : sgn 32 (C / 4096 * 4096) = x3 := HX3.out.symm
  rw [hq]
  clear wc hq q1 q2 q3 q5
  have wd := WD.out
  go_wp2_with fail
  refine (rimm_S D HDl.out w11).mono ?_
  rintro e w12 ⟨rfl, hc12⟩
  have hq : sgn 12 ((D / 33554432 % 128) * 32 + (D / 128 % 32)) = x4 := HX4.out.symm
  rw [hq]
  have HC12 := Lib.hid (HC11.out.trans hc12)
  have HP12 : Hid (w12.row? Pb = some #[.int .u32 (a0 : Int), .int .u32 (a1 : Int)]) := Lib.hid ((hc12.row (row_lt HP11.out) (by simp)).trans HP11.out)
  clear hq wd hc12
  have wq := WQ.out
  have q4 := HS2.out
  have k0 := HK0.out
  have k1 := HK1.out
  have k2 := HK2.out
  have k3 := HK3.out
  have cA : w12.cell? ⟨Pb, 0, none⟩ = some (.int .u32 (a0 : Int)) := by rw [row_cell HP12.out]; rfl
  have cB : w12.cell? ⟨Pb, 1, none⟩ = some (.int .u32 (a1 : Int)) := by rw [row_cell HP12.out]; rfl
  go_wp2
  go_ret
  exact ⟨rfl, HC12.out⟩
end Go.Proofs.L
