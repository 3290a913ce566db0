/- Proved here: lemmas and contracts (Rr3) for the laws of this seat, for all values of the stated types; no further condition. -/
import Derived.Test.YtjiiojbenbldlaaRr2
open Go Go.RowKit Go.Lib
namespace Go.Proofs.L
attribute [local irreducible] wpT
/-! the reference's Value -/
theorem a30 : aggT Try.prog 30 4 := aggT_of (by kernel_rfl)
/-- the value, the letter (0: none), the error -/
def valN (bias : Nat) (Rs : List Rl) (Ys : List Nat) (r : Rl) : Nat × Nat × Nat :=
  let p := (bias + r.at_) % 4294967296
  let sa := (symN Ys bias r.sy + r.add) % 4294967296
  if r.ty = 1 then (sa, 87, 0)
  else if r.ty = 3 then ((bias + r.add) % 4294967296, 87, 0)
  else if r.ty = 16 then (if farN (subw sa p) 13 then (0, 0, 14) else (subw sa p, 66, 0))
  else if r.ty = 17 then (if farN (subw sa p) 21 then (0, 0, 14) else (subw sa p, 74, 0))
  else if r.ty = 18 ∨ r.ty = 19 ∨ r.ty = 23 then (subw sa p, 85, 0)
  else if r.ty = 26 then (sa, 85, 0)
  else if r.ty = 27 then (sa, 73, 0)
  else if r.ty = 28 then (sa, 83, 0)
  else if (pairN Rs Ys bias sa).2 = false ∨ r.add ≠ 0 then (0, 0, 13)
  else ((pairN Rs Ys bias sa).1, if r.ty = 25 then 83 else 73, 0)
def ValQ (w : World) (R : Nat × Nat × Nat) (e : Ending) (w' : World) : Prop := e = .returned (.tuple #[.int .i64 (R.1 : Int), .string (strB R.2.1), .int .i64 (R.2.2 : Int)]) ∧ Chg [] w w'
theorem w64id (x : Nat) (h : x < 8589934592) : wrap64 (x : Int) = (x : Int) ∧ IntKind.i64.wrap (x : Int) = (x : Int) := ⟨IntWalk.wrap64_in _ ⟨by omega, by omega⟩, i64in (by omega) (by omega)⟩
theorem w64id' (x : Nat) (h : x < 17179869184) : wrap64 (x : Int) = (x : Int) ∧ IntKind.i64.wrap (x : Int) = (x : Int) := ⟨IntWalk.wrap64_in _ ⟨by omega, by omega⟩, i64in (by omega) (by omega)⟩
theorem w64add (a b q : Nat) (ha : a < 8589934592) (hb : b < 8589934592) (hq : q = a + b) : wrap64 ((a : Int) + (b : Int)) = (q : Int) ∧ IntKind.i64.wrap ((a : Int) + (b : Int)) = (q : Int) := by
  have e : (a : Int) + (b : Int) = (q : Int) := by omega
  rw [e]
  exact w64id' q (by omega)
theorem w64sub (a b : Nat) (ha : a < 8589934592) (hb : b < 8589934592) : wrap64 ((a : Int) - (b : Int)) = (a : Int) - (b : Int) := IntWalk.wrap64_in _ ⟨by omega, by omega⟩
theorem w64sub2 (a b : Nat) (ha : a < 8589934592) (hb : b < 8589934592) : IntKind.i64.wrap ((a : Int) - (b : Int)) = (a : Int) - (b : Int) := by
  simp [IntKind.wrap, IntKind.bits, IntKind.signed]
  omega
theorem lowN_sub (x a : Nat) (ha : a < 4294967296) : lowN ((x : Int) - (a : Int)) = subw (x % 4294967296) a := by unfold lowN subw; omega
set_option maxRecDepth 100000 in
set_option maxHeartbeats 16000000 in
theorem rval_1 {w : World} {v : Jv} {Rs : List Rl} {Ys : List Nat} (hF : FileOk w v Rs Ys) (hlen : v.nrl < 1000000) (bias ra add : Nat) (sy : Int) (hb : bias < 4294967296) (hra : ra < 4294967296) (hadd : add < 4294967296) :
    Calls Try.prog 12 #[.agg (fileA v), .int .i64 (bias : Int), .agg #[.int .u32 (ra : Int), .int .i64 1, .int .i64 sy, .int .u32 (add : Int)]] w (ValQ w (valN bias Rs Ys ⟨ra, 1, sy, add⟩)) := by
  obtain ⟨q, hq⟩ : ∃ q, q = bias + ra := ⟨_, rfl⟩
  obtain ⟨p, hpp⟩ : ∃ p, p = (bias + ra) % 4294967296 := ⟨_, rfl⟩
  obtain ⟨y, hy⟩ : ∃ y, y = symN Ys bias sy := ⟨_, rfl⟩
  have hyl : y < 4294967296 := by rw [hy]; exact symN_lt _ _ _
  obtain ⟨z, hz⟩ : ∃ z, z = y + add := ⟨_, rfl⟩
  obtain ⟨sa, hsa⟩ : ∃ s, s = (symN Ys bias sy + add) % 4294967296 := ⟨_, rfl⟩
  have L1 : ra < 8589934592 := by omega
  have L2 : add < 8589934592 := by omega
  have L3 : bias < 8589934592 := by omega
  have L4 : y < 8589934592 := by omega
  have hpl : p < 4294967296 := by rw [hpp]; exact Nat.mod_lt _ (by decide)
  have hsl : sa < 4294967296 := by rw [hsa]; exact Nat.mod_lt _ (by decide)
  have wa := (w64id ra L1).1
  have wb := (w64add bias ra q L3 L1 hq).1
  have WC := Lib.hid (w64id add L2).1
  have WC2 := Lib.hid (w64id add L2).2
  have WD := Lib.hid (w64add y add z L4 L2 hz).1
  have WD2 := Lib.hid (w64add y add z L4 L2 hz).2
  have HPL := Lib.hid hpl
  have HSL := Lib.hid hsl
  clear L4 hyl
  have HPQ : Hid (lowN (q : Int) = p) := Lib.hid (by rw [lowN_nat, hpp, hq])
  have HZS : Hid (lowN (z : Int) = sa) := Lib.hid (by rw [lowN_nat, hsa, hz, hy])
  obtain ⟨Fb, hFb⟩ : ∃ b, b = w.heap.size := ⟨_, rfl⟩
  obtain ⟨X, hX⟩ : ∃ X, X = (w.alloc (.cells #[v.e, v.sg, .slice v.prl v.nrl v.crl, .slice v.psy v.nsy v.csy] 30)).alloc (.cells #[.int .u32 (ra : Int), .int .i64 1, .int .i64 sy, .int .u32 (add : Int)] 32) := ⟨_, rfl⟩
  have hcX : Chg [] w X := by rw [hX]; exact ((Chg.refl _ _).alloc _).alloc _
  have hrF : X.row? Fb = some (fileA v) := by rw [hX, row_alloc_past _ _ _ (by simp; omega)]; exact row_alloc_at _ _ _ _ hFb
  have hrR : X.row? (Fb + 1) = some #[.int .u32 (ra : Int), .int .i64 1, .int .i64 sy, .int .u32 (add : Int)] := by rw [hX]; exact row_alloc_at _ _ _ _ (by simp [hFb])
  have HRF : Hid (∀ W, Chg [] X W → W.row? Fb = some (fileA v)) := Lib.hid fun W hW => (hW.row (row_lt hrF) (by simp)).trans hrF
  have HRR : Hid (∀ W, Chg [] X W → W.cell? ⟨Fb + 1, 0, none⟩ = some (.int .u32 (ra : Int)) ∧ W.cell? ⟨Fb + 1, 1, none⟩ = some (.int .i64 1) ∧ W.cell? ⟨Fb + 1, 2, none⟩ = some (.int .i64 sy) ∧ W.cell? ⟨Fb + 1, 3, none⟩ = some (.int .u32 (add : Int))) := Lib.hid fun W hW => by
    have h := (hW.row (row_lt hrR) (by simp)).trans hrR
    exact ⟨by rw [row_cell h]; rfl, by rw [row_cell h]; rfl, by rw [row_cell h]; rfl, by rw [row_cell h]; rfl⟩
  have HCX := Lib.hid hcX
  have HFX : Hid (∀ W, Chg [] X W → FileOk W v Rs Ys) := Lib.hid fun W hW => hF.keep (hcX.trans hW) (by simp) (by simp)
  have HX := Lib.hid hX
  have HPP := Lib.hid hpp
  have HSA := Lib.hid hsa
  have HY := Lib.hid hy
  have HB := Lib.hid hb
  have HA := Lib.hid hadd
  have HL := Lib.hid hlen
  have HFB := Lib.hid hFb
  have c0 := (HRR.out X (Chg.refl _ _)).1
  have HVN : Hid (valN bias Rs Ys ⟨ra, 1, sy, add⟩ = (sa, 87, 0)) := Lib.hid (by unfold valN; simp only [← hsa, ← hpp]; simp)
  clear hF hlen hb hra hadd hq hpp hy hz hsa hcX hrF hrR hX hFb L1 L2 L3 hpl hsl
  unfold fileA
  go_enter Try.func12, Try.ntmps12
  go_upto_region 1 with (fail)
  rw [← HX.out, ← HFB.out]
  clear HX
  go_wp2_with fail
  refine (low_any (q : Int) X).mono ?_
  rintro e w' ⟨rfl, hw⟩
  obtain rfl := hw.symm
  clear hw
  rw [HPQ.out]
  clear wa wb c0
  go_upto_region 2 with (fail)
  have wc := WC.out
  have wd := WD.out
  have wc2 := WC2.out
  have wd2 := WD2.out
  refine wp_region_C (fun w' => Chg [] X w' ∧ w'.row? Fb = some (fileA v) ∧ w'.cell? ⟨Fb + 1, 2, none⟩ = some (.int .i64 sy) ∧ w'.cell? ⟨Fb + 1, 3, none⟩ = some (.int .u32 (add : Int))) [(0, 1), (1, 0), (2, 0), (3, 1), (5, 0), (6, 1), (7, 0), (4, 2), (8, 0), (9, 0), (10, 0)] rfl (by kernel_rfl) ?hSA ?hTA
  case hSA => exact ⟨(Chg.refl _ _).drew, HRF.out _ (Chg.refl _ _).drew, (HRR.out _ (Chg.refl _ _).drew).2.2.1, (HRR.out _ (Chg.refl _ _).drew).2.2.2⟩
  refine wpT_load_part a30 [v.e, v.sg, .slice v.prl v.nrl v.crl, .slice v.psy v.nsy v.csy] (some 24) _ rfl rfl rfl (by rfl) rfl rfl (fun w' hw j u hu => by rw [Nat.zero_add, row_cell hw.2.1]; simpa [fileA] using hu) ?_
  try simp only [Act.put, List.setIfInBounds_toArray, List.set_cons_zero, List.set_cons_succ]
  try simp only [Act.put, List.setIfInBounds_toArray, List.set_cons_zero, List.set_cons_succ]
  refine wpT_pureD (v := ?_) (some 25) rfl rfl (by rfl) (fun w' => ?_) ?_
  rotate_left
  · (go_simp; try with_reducible rfl)
  try simp only [Act.put, List.setIfInBounds_toArray, List.set_cons_zero, List.set_cons_succ]
  refine wpT_pureD (v := ?_) (some 26) rfl rfl (by rfl) (fun w' => ?_) ?_
  rotate_left
  · (go_simp; try with_reducible rfl)
  try simp only [Act.put, List.setIfInBounds_toArray, List.set_cons_zero, List.set_cons_succ]
  refine wpT_readD (v := ?_) (some 27) rfl rfl (by rfl) (fun w' hw => ?_) ?_
  rotate_left
  · (obtain ⟨q0, q1, q2, q3⟩ := hw; go_simp; try with_reducible rfl)
  try simp only [Act.put, List.setIfInBounds_toArray, List.set_cons_zero, List.set_cons_succ]
  refine wpT_pureD (v := ?_) (some 29) rfl rfl (by rfl) (fun w' => ?_) ?_
  rotate_left
  · (go_simp; try with_reducible rfl)
  try simp only [Act.put, List.setIfInBounds_toArray, List.set_cons_zero, List.set_cons_succ]
  refine wpT_readD (v := ?_) (some 30) rfl rfl (by rfl) (fun w' hw => ?_) ?_
  rotate_left
  · (obtain ⟨q0, q1, q2, q3⟩ := hw; go_simp; try with_reducible rfl)
  try simp only [Act.put, List.setIfInBounds_toArray, List.set_cons_zero, List.set_cons_succ]
  refine wpT_pureD (v := ?_) (some 31) rfl rfl (by rfl) (fun w' => ?_) ?_
  rotate_left
  · (go_simp; try with_reducible rfl)
  try simp only [Act.put, List.setIfInBounds_toArray, List.set_cons_zero, List.set_cons_succ]
  refine wpT_eff rfl (by rfl) (fun K hK => ?_)
  go_wp2_with fail
  refine (rsym_any (HFX.out _ (Chg.refl _ _).drew) bias HB.out sy).mono ?_
  rintro e w3 ⟨rfl, hc3⟩
  rw [← HY.out]
  go_wp2_with fail
  have hc4 := (Chg.refl [] X).drew.trans hc3
  refine hK _ _ ⟨hc4, HRF.out _ hc4, (HRR.out _ hc4).2.2.1, (HRR.out _ hc4).2.2.2⟩ ?_
  clear hK K
  refine wpT_pureD (v := ?_) (some 32) rfl rfl (by rfl) (fun w' => ?_) ?_
  rotate_left
  · (go_simp; try with_reducible rfl)
  try simp only [Act.put, List.setIfInBounds_toArray, List.set_cons_zero, List.set_cons_succ]
  refine wpT_call (d := some 33) (f := 24) (args := #[.int .i64 (z : Int)]) (v := .int .i64 (sa : Int)) rfl rfl (by rfl) (fun w' => by first | rfl | (go_simp; done) | (go_simp; rfl)) (fun w' => by rw [← HZS.out]; exact low_any (z : Int) w') ?_
  try simp only [Act.put, List.setIfInBounds_toArray, List.set_cons_zero, List.set_cons_succ]
  try simp only [Act.put, List.setIfInBounds_toArray, List.set_cons_zero, List.set_cons_succ]
  refine wpT_pureD (v := ?_) (some 10) rfl rfl (by rfl) (fun w' => ?_) ?_
  rotate_left
  · (go_simp; try with_reducible rfl)
  try simp only [Act.put, List.setIfInBounds_toArray, List.set_cons_zero, List.set_cons_succ]
  refine wpT_end ?_
  have HC4 := Lib.hid hc4
  have c1 := (HRR.out _ hc4).2.1
  clear wc wd wc2 wd2 hc3 hc4
  go_wp2
  go_ret3
  exact ⟨by rw [HVN.out]; rfl, HCX.out.trans HC4.out⟩
set_option maxRecDepth 100000 in
set_option maxHeartbeats 16000000 in
theorem rval_26 {w : World} {v : Jv} {Rs : List Rl} {Ys : List Nat} (hF : FileOk w v Rs Ys) (hlen : v.nrl < 1000000) (bias ra add : Nat) (sy : Int) (hb : bias < 4294967296) (hra : ra < 4294967296) (hadd : add < 4294967296) :
    Calls Try.prog 12 #[.agg (fileA v), .int .i64 (bias : Int), .agg #[.int .u32 (ra : Int), .int .i64 26, .int .i64 sy, .int .u32 (add : Int)]] w (ValQ w (valN bias Rs Ys ⟨ra, 26, sy, add⟩)) := by
  obtain ⟨q, hq⟩ : ∃ q, q = bias + ra := ⟨_, rfl⟩
  obtain ⟨p, hpp⟩ : ∃ p, p = (bias + ra) % 4294967296 := ⟨_, rfl⟩
  obtain ⟨y, hy⟩ : ∃ y, y = symN Ys bias sy := ⟨_, rfl⟩
  have hyl : y < 4294967296 := by rw [hy]; exact symN_lt _ _ _
  obtain ⟨z, hz⟩ : ∃ z, z = y + add := ⟨_, rfl⟩
  obtain ⟨sa, hsa⟩ : ∃ s, s = (symN Ys bias sy + add) % 4294967296 := ⟨_, rfl⟩
  have L1 : ra < 8589934592 := by omega
  have L2 : add < 8589934592 := by omega
  have L3 : bias < 8589934592 := by omega
  have L4 : y < 8589934592 := by omega
  have hpl : p < 4294967296 := by rw [hpp]; exact Nat.mod_lt _ (by decide)
  have hsl : sa < 4294967296 := by rw [hsa]; exact Nat.mod_lt _ (by decide)
  have wa := (w64id ra L1).1
  have wb := (w64add bias ra q L3 L1 hq).1
  have WC := Lib.hid (w64id add L2).1
  have WC2 := Lib.hid (w64id add L2).2
  have WD := Lib.hid (w64add y add z L4 L2 hz).1
  have WD2 := Lib.hid (w64add y add z L4 L2 hz).2
  have HPL := Lib.hid hpl
  have HSL := Lib.hid hsl
  clear L4 hyl
  have HPQ : Hid (lowN (q : Int) = p) := Lib.hid (by rw [lowN_nat, hpp, hq])
  have HZS : Hid (lowN (z : Int) = sa) := Lib.hid (by rw [lowN_nat, hsa, hz, hy])
  obtain ⟨Fb, hFb⟩ : ∃ b, b = w.heap.size := ⟨_, rfl⟩
  obtain ⟨X, hX⟩ : ∃ X, X = (w.alloc (.cells #[v.e, v.sg, .slice v.prl v.nrl v.crl, .slice v.psy v.nsy v.csy] 30)).alloc (.cells #[.int .u32 (ra : Int), .int .i64 26, .int .i64 sy, .int .u32 (add : Int)] 32) := ⟨_, rfl⟩
  have hcX : Chg [] w X := by rw [hX]; exact ((Chg.refl _ _).alloc _).alloc _
  have hrF : X.row? Fb = some (fileA v) := by rw [hX, row_alloc_past _ _ _ (by simp; omega)]; exact row_alloc_at _ _ _ _ hFb
  have hrR : X.row? (Fb + 1) = some #[.int .u32 (ra : Int), .int .i64 26, .int .i64 sy, .int .u32 (add : Int)] := by rw [hX]; exact row_alloc_at _ _ _ _ (by simp [hFb])
  have HRF : Hid (∀ W, Chg [] X W → W.row? Fb = some (fileA v)) := Lib.hid fun W hW => (hW.row (row_lt hrF) (by simp)).trans hrF
  have HRR : Hid (∀ W, Chg [] X W → W.cell? ⟨Fb + 1, 0, none⟩ = some (.int .u32 (ra : Int)) ∧ W.cell? ⟨Fb + 1, 1, none⟩ = some (.int .i64 26) ∧ W.cell? ⟨Fb + 1, 2, none⟩ = some (.int .i64 sy) ∧ W.cell? ⟨Fb + 1, 3, none⟩ = some (.int .u32 (add : Int))) := Lib.hid fun W hW => by
    have h := (hW.row (row_lt hrR) (by simp)).trans hrR
    exact ⟨by rw [row_cell h]; rfl, by rw [row_cell h]; rfl, by rw [row_cell h]; rfl, by rw [row_cell h]; rfl⟩
  have HCX := Lib.hid hcX
  have HFX : Hid (∀ W, Chg [] X W → FileOk W v Rs Ys) := Lib.hid fun W hW => hF.keep (hcX.trans hW) (by simp) (by simp)
  have HX := Lib.hid hX
  have HPP := Lib.hid hpp
  have HSA := Lib.hid hsa
  have HY := Lib.hid hy
  have HB := Lib.hid hb
  have HA := Lib.hid hadd
  have HL := Lib.hid hlen
  have HFB := Lib.hid hFb
  have c0 := (HRR.out X (Chg.refl _ _)).1
  have HVN : Hid (valN bias Rs Ys ⟨ra, 26, sy, add⟩ = (sa, 85, 0)) := Lib.hid (by unfold valN; simp only [← hsa, ← hpp]; simp)
  clear hF hlen hb hra hadd hq hpp hy hz hsa hcX hrF hrR hX hFb L1 L2 L3 hpl hsl
  unfold fileA
  go_enter Try.func12, Try.ntmps12
  go_upto_region 1 with (fail)
  rw [← HX.out, ← HFB.out]
  clear HX
  go_wp2_with fail
  refine (low_any (q : Int) X).mono ?_
  rintro e w' ⟨rfl, hw⟩
  obtain rfl := hw.symm
  clear hw
  rw [HPQ.out]
  clear wa wb c0
  go_upto_region 2 with (fail)
  have wc := WC.out
  have wd := WD.out
  have wc2 := WC2.out
  have wd2 := WD2.out
  refine wp_region_C (fun w' => Chg [] X w' ∧ w'.row? Fb = some (fileA v) ∧ w'.cell? ⟨Fb + 1, 2, none⟩ = some (.int .i64 sy) ∧ w'.cell? ⟨Fb + 1, 3, none⟩ = some (.int .u32 (add : Int))) [(0, 1), (1, 0), (2, 0), (3, 1), (5, 0), (6, 1), (7, 0), (4, 2), (8, 0), (9, 0), (10, 0)] rfl (by kernel_rfl) ?hSA ?hTA
  case hSA => exact ⟨(Chg.refl _ _).drew, HRF.out _ (Chg.refl _ _).drew, (HRR.out _ (Chg.refl _ _).drew).2.2.1, (HRR.out _ (Chg.refl _ _).drew).2.2.2⟩
  refine wpT_load_part a30 [v.e, v.sg, .slice v.prl v.nrl v.crl, .slice v.psy v.nsy v.csy] (some 24) _ rfl rfl rfl (by rfl) rfl rfl (fun w' hw j u hu => by rw [Nat.zero_add, row_cell hw.2.1]; simpa [fileA] using hu) ?_
  try simp only [Act.put, List.setIfInBounds_toArray, List.set_cons_zero, List.set_cons_succ]
  try simp only [Act.put, List.setIfInBounds_toArray, List.set_cons_zero, List.set_cons_succ]
  refine wpT_pureD (v := ?_) (some 25) rfl rfl (by rfl) (fun w' => ?_) ?_
  rotate_left
  · (go_simp; try with_reducible rfl)
  try simp only [Act.put, List.setIfInBounds_toArray, List.set_cons_zero, List.set_cons_succ]
  refine wpT_pureD (v := ?_) (some 26) rfl rfl (by rfl) (fun w' => ?_) ?_
  rotate_left
  · (go_simp; try with_reducible rfl)
  try simp only [Act.put, List.setIfInBounds_toArray, List.set_cons_zero, List.set_cons_succ]
  refine wpT_readD (v := ?_) (some 27) rfl rfl (by rfl) (fun w' hw => ?_) ?_
  rotate_left
  · (obtain ⟨q0, q1, q2, q3⟩ := hw; go_simp; try with_reducible rfl)
  try simp only [Act.put, List.setIfInBounds_toArray, List.set_cons_zero, List.set_cons_succ]
  refine wpT_pureD (v := ?_) (some 29) rfl rfl (by rfl) (fun w' => ?_) ?_
  rotate_left
  · (go_simp; try with_reducible rfl)
  try simp only [Act.put, List.setIfInBounds_toArray, List.set_cons_zero, List.set_cons_succ]
  refine wpT_readD (v := ?_) (some 30) rfl rfl (by rfl) (fun w' hw => ?_) ?_
  rotate_left
  · (obtain ⟨q0, q1, q2, q3⟩ := hw; go_simp; try with_reducible rfl)
  try simp only [Act.put, List.setIfInBounds_toArray, List.set_cons_zero, List.set_cons_succ]
  refine wpT_pureD (v := ?_) (some 31) rfl rfl (by rfl) (fun w' => ?_) ?_
  rotate_left
  · (go_simp; try with_reducible rfl)
  try simp only [Act.put, List.setIfInBounds_toArray, List.set_cons_zero, List.set_cons_succ]
  refine wpT_eff rfl (by rfl) (fun K hK => ?_)
  go_wp2_with fail
  refine (rsym_any (HFX.out _ (Chg.refl _ _).drew) bias HB.out sy).mono ?_
  rintro e w3 ⟨rfl, hc3⟩
  rw [← HY.out]
  go_wp2_with fail
  have hc4 := (Chg.refl [] X).drew.trans hc3
  refine hK _ _ ⟨hc4, HRF.out _ hc4, (HRR.out _ hc4).2.2.1, (HRR.out _ hc4).2.2.2⟩ ?_
  clear hK K
  refine wpT_pureD (v := ?_) (some 32) rfl rfl (by rfl) (fun w' => ?_) ?_
  rotate_left
  · (go_simp; try with_reducible rfl)
  try simp only [Act.put, List.setIfInBounds_toArray, List.set_cons_zero, List.set_cons_succ]
  refine wpT_call (d := some 33) (f := 24) (args := #[.int .i64 (z : Int)]) (v := .int .i64 (sa : Int)) rfl rfl (by rfl) (fun w' => by first | rfl | (go_simp; done) | (go_simp; rfl)) (fun w' => by rw [← HZS.out]; exact low_any (z : Int) w') ?_
  try simp only [Act.put, List.setIfInBounds_toArray, List.set_cons_zero, List.set_cons_succ]
  try simp only [Act.put, List.setIfInBounds_toArray, List.set_cons_zero, List.set_cons_succ]
  refine wpT_pureD (v := ?_) (some 10) rfl rfl (by rfl) (fun w' => ?_) ?_
  rotate_left
  · (go_simp; try with_reducible rfl)
  try simp only [Act.put, List.setIfInBounds_toArray, List.set_cons_zero, List.set_cons_succ]
  refine wpT_end ?_
  have HC4 := Lib.hid hc4
  have c1 := (HRR.out _ hc4).2.1
  clear wc wd wc2 wd2 hc3 hc4
  go_wp2
  go_ret3
  exact ⟨by rw [HVN.out]; rfl, HCX.out.trans HC4.out⟩
set_option maxRecDepth 100000 in
set_option maxHeartbeats 16000000 in
theorem rval_27 {w : World} {v : Jv} {Rs : List Rl} {Ys : List Nat} (hF : FileOk w v Rs Ys) (hlen : v.nrl < 1000000) (bias ra add : Nat) (sy : Int) (hb : bias < 4294967296) (hra : ra < 4294967296) (hadd : add < 4294967296) :
    Calls Try.prog 12 #[.agg (fileA v), .int .i64 (bias : Int), .agg #[.int .u32 (ra : Int), .int .i64 27, .int .i64 sy, .int .u32 (add : Int)]] w (ValQ w (valN bias Rs Ys ⟨ra, 27, sy, add⟩)) := by
  obtain ⟨q, hq⟩ : ∃ q, q = bias + ra := ⟨_, rfl⟩
  obtain ⟨p, hpp⟩ : ∃ p, p = (bias + ra) % 4294967296 := ⟨_, rfl⟩
  obtain ⟨y, hy⟩ : ∃ y, y = symN Ys bias sy := ⟨_, rfl⟩
  have hyl : y < 4294967296 := by rw [hy]; exact symN_lt _ _ _
  obtain ⟨z, hz⟩ : ∃ z, z = y + add := ⟨_, rfl⟩
  obtain ⟨sa, hsa⟩ : ∃ s, s = (symN Ys bias sy + add) % 4294967296 := ⟨_, rfl⟩
  have L1 : ra < 8589934592 := by omega
  have L2 : add < 8589934592 := by omega
  have L3 : bias < 8589934592 := by omega
  have L4 : y < 8589934592 := by omega
  have hpl : p < 4294967296 := by rw [hpp]; exact Nat.mod_lt _ (by decide)
  have hsl : sa < 4294967296 := by rw [hsa]; exact Nat.mod_lt _ (by decide)
  have wa := (w64id ra L1).1
  have wb := (w64add bias ra q L3 L1 hq).1
  have WC := Lib.hid (w64id add L2).1
  have WC2 := Lib.hid (w64id add L2).2
  have WD := Lib.hid (w64add y add z L4 L2 hz).1
  have WD2 := Lib.hid (w64add y add z L4 L2 hz).2
  have HPL := Lib.hid hpl
  have HSL := Lib.hid hsl
  clear L4 hyl
  have HPQ : Hid (lowN (q : Int) = p) := Lib.hid (by rw [lowN_nat, hpp, hq])
  have HZS : Hid (lowN (z : Int) = sa) := Lib.hid (by rw [lowN_nat, hsa, hz, hy])
  obtain ⟨Fb, hFb⟩ : ∃ b, b = w.heap.size := ⟨_, rfl⟩
  obtain ⟨X, hX⟩ : ∃ X, X = (w.alloc (.cells #[v.e, v.sg, .slice v.prl v.nrl v.crl, .slice v.psy v.nsy v.csy] 30)).alloc (.cells #[.int .u32 (ra : Int), .int .i64 27, .int .i64 sy, .int .u32 (add : Int)] 32) := ⟨_, rfl⟩
  have hcX : Chg [] w X := by rw [hX]; exact ((Chg.refl _ _).alloc _).alloc _
  have hrF : X.row? Fb = some (fileA v) := by rw [hX, row_alloc_past _ _ _ (by simp; omega)]; exact row_alloc_at _ _ _ _ hFb
  have hrR : X.row? (Fb + 1) = some #[.int .u32 (ra : Int), .int .i64 27, .int .i64 sy, .int .u32 (add : Int)] := by rw [hX]; exact row_alloc_at _ _ _ _ (by simp [hFb])
  have HRF : Hid (∀ W, Chg [] X W → W.row? Fb = some (fileA v)) := Lib.hid fun W hW => (hW.row (row_lt hrF) (by simp)).trans hrF
  have HRR : Hid (∀ W, Chg [] X W → W.cell? ⟨Fb + 1, 0, none⟩ = some (.int .u32 (ra : Int)) ∧ W.cell? ⟨Fb + 1, 1, none⟩ = some (.int .i64 27) ∧ W.cell? ⟨Fb + 1, 2, none⟩ = some (.int .i64 sy) ∧ W.cell? ⟨Fb + 1, 3, none⟩ = some (.int .u32 (add : Int))) := Lib.hid fun W hW => by
    have h := (hW.row (row_lt hrR) (by simp)).trans hrR
    exact ⟨by rw [row_cell h]; rfl, by rw [row_cell h]; rfl, by rw [row_cell h]; rfl, by rw [row_cell h]; rfl⟩
  have HCX := Lib.hid hcX
  have HFX : Hid (∀ W, Chg [] X W → FileOk W v Rs Ys) := Lib.hid fun W hW => hF.keep (hcX.trans hW) (by simp) (by simp)
  have HX := Lib.hid hX
  have HPP := Lib.hid hpp
  have HSA := Lib.hid hsa
  have HY := Lib.hid hy
  have HB := Lib.hid hb
  have HA := Lib.hid hadd
  have HL := Lib.hid hlen
  have HFB := Lib.hid hFb
  have c0 := (HRR.out X (Chg.refl _ _)).1
  have HVN : Hid (valN bias Rs Ys ⟨ra, 27, sy, add⟩ = (sa, 73, 0)) := Lib.hid (by unfold valN; simp only [← hsa, ← hpp]; simp)
  clear hF hlen hb hra hadd hq hpp hy hz hsa hcX hrF hrR hX hFb L1 L2 L3 hpl hsl
  unfold fileA
  go_enter Try.func12, Try.ntmps12
  go_upto_region 1 with (fail)
  rw [← HX.out, ← HFB.out]
  clear HX
  go_wp2_with fail
  refine (low_any (q : Int) X).mono ?_
  rintro e w' ⟨rfl, hw⟩
  obtain rfl := hw.symm
  clear hw
  rw [HPQ.out]
  clear wa wb c0
  go_upto_region 2 with (fail)
  have wc := WC.out
  have wd := WD.out
  have wc2 := WC2.out
  have wd2 := WD2.out
  refine wp_region_C (fun w' => Chg [] X w' ∧ w'.row? Fb = some (fileA v) ∧ w'.cell? ⟨Fb + 1, 2, none⟩ = some (.int .i64 sy) ∧ w'.cell? ⟨Fb + 1, 3, none⟩ = some (.int .u32 (add : Int))) [(0, 1), (1, 0), (2, 0), (3, 1), (5, 0), (6, 1), (7, 0), (4, 2), (8, 0), (9, 0), (10, 0)] rfl (by kernel_rfl) ?hSA ?hTA
  case hSA => exact ⟨(Chg.refl _ _).drew, HRF.out _ (Chg.refl _ _).drew, (HRR.out _ (Chg.refl _ _).drew).2.2.1, (HRR.out _ (Chg.refl _ _).drew).2.2.2⟩
  refine wpT_load_part a30 [v.e, v.sg, .slice v.prl v.nrl v.crl, .slice v.psy v.nsy v.csy] (some 24) _ rfl rfl rfl (by rfl) rfl rfl (fun w' hw j u hu => by rw [Nat.zero_add, row_cell hw.2.1]; simpa [fileA] using hu) ?_
  try simp only [Act.put, List.setIfInBounds_toArray, List.set_cons_zero, List.set_cons_succ]
  try simp only [Act.put, List.setIfInBounds_toArray, List.set_cons_zero, List.set_cons_succ]
  refine wpT_pureD (v := ?_) (some 25) rfl rfl (by rfl) (fun w' => ?_) ?_
  rotate_left
  · (go_simp; try with_reducible rfl)
  try simp only [Act.put, List.setIfInBounds_toArray, List.set_cons_zero, List.set_cons_succ]
  refine wpT_pureD (v := ?_) (some 26) rfl rfl (by rfl) (fun w' => ?_) ?_
  rotate_left
  · (go_simp; try with_reducible rfl)
  try simp only [Act.put, List.setIfInBounds_toArray, List.set_cons_zero, List.set_cons_succ]
  refine wpT_readD (v := ?_) (some 27) rfl rfl (by rfl) (fun w' hw => ?_) ?_
  rotate_left
  · (obtain ⟨q0, q1, q2, q3⟩ := hw; go_simp; try with_reducible rfl)
  try simp only [Act.put, List.setIfInBounds_toArray, List.set_cons_zero, List.set_cons_succ]
  refine wpT_pureD (v := ?_) (some 29) rfl rfl (by rfl) (fun w' => ?_) ?_
  rotate_left
  · (go_simp; try with_reducible rfl)
  try simp only [Act.put, List.setIfInBounds_toArray, List.set_cons_zero, List.set_cons_succ]
  refine wpT_readD (v := ?_) (some 30) rfl rfl (by rfl) (fun w' hw => ?_) ?_
  rotate_left
  · (obtain ⟨q0, q1, q2, q3⟩ := hw; go_simp; try with_reducible rfl)
  try simp only [Act.put, List.setIfInBounds_toArray, List.set_cons_zero, List.set_cons_succ]
  refine wpT_pureD (v := ?_) (some 31) rfl rfl (by rfl) (fun w' => ?_) ?_
  rotate_left
  · (go_simp; try with_reducible rfl)
  try simp only [Act.put, List.setIfInBounds_toArray, List.set_cons_zero, List.set_cons_succ]
  refine wpT_eff rfl (by rfl) (fun K hK => ?_)
  go_wp2_with fail
  refine (rsym_any (HFX.out _ (Chg.refl _ _).drew) bias HB.out sy).mono ?_
  rintro e w3 ⟨rfl, hc3⟩
  rw [← HY.out]
  go_wp2_with fail
  have hc4 := (Chg.refl [] X).drew.trans hc3
  refine hK _ _ ⟨hc4, HRF.out _ hc4, (HRR.out _ hc4).2.2.1, (HRR.out _ hc4).2.2.2⟩ ?_
  clear hK K
  refine wpT_pureD (v := ?_) (some 32) rfl rfl (by rfl) (fun w' => ?_) ?_
  rotate_left
  · (go_simp; try with_reducible rfl)
  try simp only [Act.put, List.setIfInBounds_toArray, List.set_cons_zero, List.set_cons_succ]
  refine wpT_call (d := some 33) (f := 24) (args := #[.int .i64 (z : Int)]) (v := .int .i64 (sa : Int)) rfl rfl (by rfl) (fun w' => by first | rfl | (go_simp; done) | (go_simp; rfl)) (fun w' => by rw [← HZS.out]; exact low_any (z : Int) w') ?_
  try simp only [Act.put, List.setIfInBounds_toArray, List.set_cons_zero, List.set_cons_succ]
  try simp only [Act.put, List.setIfInBounds_toArray, List.set_cons_zero, List.set_cons_succ]
  refine wpT_pureD (v := ?_) (some 10) rfl rfl (by rfl) (fun w' => ?_) ?_
  rotate_left
  · (go_simp; try with_reducible rfl)
  try simp only [Act.put, List.setIfInBounds_toArray, List.set_cons_zero, List.set_cons_succ]
  refine wpT_end ?_
  have HC4 := Lib.hid hc4
  have c1 := (HRR.out _ hc4).2.1
  clear wc wd wc2 wd2 hc3 hc4
  go_wp2
  go_ret3
  exact ⟨by rw [HVN.out]; rfl, HCX.out.trans HC4.out⟩
set_option maxRecDepth 100000 in
set_option maxHeartbeats 16000000 in
theorem rval_28 {w : World} {v : Jv} {Rs : List Rl} {Ys : List Nat} (hF : FileOk w v Rs Ys) (hlen : v.nrl < 1000000) (bias ra add : Nat) (sy : Int) (hb : bias < 4294967296) (hra : ra < 4294967296) (hadd : add < 4294967296) :
    Calls Try.prog 12 #[.agg (fileA v), .int .i64 (bias : Int), .agg #[.int .u32 (ra : Int), .int .i64 28, .int .i64 sy, .int .u32 (add : Int)]] w (ValQ w (valN bias Rs Ys ⟨ra, 28, sy, add⟩)) := by
  obtain ⟨q, hq⟩ : ∃ q, q = bias + ra := ⟨_, rfl⟩
  obtain ⟨p, hpp⟩ : ∃ p, p = (bias + ra) % 4294967296 := ⟨_, rfl⟩
  obtain ⟨y, hy⟩ : ∃ y, y = symN Ys bias sy := ⟨_, rfl⟩
  have hyl : y < 4294967296 := by rw [hy]; exact symN_lt _ _ _
  obtain ⟨z, hz⟩ : ∃ z, z = y + add := ⟨_, rfl⟩
  obtain ⟨sa, hsa⟩ : ∃ s, s = (symN Ys bias sy + add) % 4294967296 := ⟨_, rfl⟩
  have L1 : ra < 8589934592 := by omega
  have L2 : add < 8589934592 := by omega
  have L3 : bias < 8589934592 := by omega
  have L4 : y < 8589934592 := by omega
  have hpl : p < 4294967296 := by rw [hpp]; exact Nat.mod_lt _ (by decide)
  have hsl : sa < 4294967296 := by rw [hsa]; exact Nat.mod_lt _ (by decide)
  have wa := (w64id ra L1).1
  have wb := (w64add bias ra q L3 L1 hq).1
  have WC := Lib.hid (w64id add L2).1
  have WC2 := Lib.hid (w64id add L2).2
  have WD := Lib.hid (w64add y add z L4 L2 hz).1
  have WD2 := Lib.hid (w64add y add z L4 L2 hz).2
  have HPL := Lib.hid hpl
  have HSL := Lib.hid hsl
  clear L4 hyl
  have HPQ : Hid (lowN (q : Int) = p) := Lib.hid (by rw [lowN_nat, hpp, hq])
  have HZS : Hid (lowN (z : Int) = sa) := Lib.hid (by rw [lowN_nat, hsa, hz, hy])
  obtain ⟨Fb, hFb⟩ : ∃ b, b = w.heap.size := ⟨_, rfl⟩
  obtain ⟨X, hX⟩ : ∃ X, X = (w.alloc (.cells #[v.e, v.sg, .slice v.prl v.nrl v.crl, .slice v.psy v.nsy v.csy] 30)).alloc (.cells #[.int .u32 (ra : Int), .int .i64 28, .int .i64 sy, .int .u32 (add : Int)] 32) := ⟨_, rfl⟩
  have hcX : Chg [] w X := by rw [hX]; exact ((Chg.refl _ _).alloc _).alloc _
  have hrF : X.row? Fb = some (fileA v) := by rw [hX, row_alloc_past _ _ _ (by simp; omega)]; exact row_alloc_at _ _ _ _ hFb
  have hrR : X.row? (Fb + 1) = some #[.int .u32 (ra : Int), .int .i64 28, .int .i64 sy, .int .u32 (add : Int)] := by rw [hX]; exact row_alloc_at _ _ _ _ (by simp [hFb])
  have HRF : Hid (∀ W, Chg [] X W → W.row? Fb = some (fileA v)) := Lib.hid fun W hW => (hW.row (row_lt hrF) (by simp)).trans hrF
  have HRR : Hid (∀ W, Chg [] X W → W.cell? ⟨Fb + 1, 0, none⟩ = some (.int .u32 (ra : Int)) ∧ W.cell? ⟨Fb + 1, 1, none⟩ = some (.int .i64 28) ∧ W.cell? ⟨Fb + 1, 2, none⟩ = some (.int .i64 sy) ∧ W.cell? ⟨Fb + 1, 3, none⟩ = some (.int .u32 (add : Int))) := Lib.hid fun W hW => by
    have h := (hW.row (row_lt hrR) (by simp)).trans hrR
    exact ⟨by rw [row_cell h]; rfl, by rw [row_cell h]; rfl, by rw [row_cell h]; rfl, by rw [row_cell h]; rfl⟩
  have HCX := Lib.hid hcX
  have HFX : Hid (∀ W, Chg [] X W → FileOk W v Rs Ys) := Lib.hid fun W hW => hF.keep (hcX.trans hW) (by simp) (by simp)
  have HX := Lib.hid hX
  have HPP := Lib.hid hpp
  have HSA := Lib.hid hsa
  have HY := Lib.hid hy
  have HB := Lib.hid hb
  have HA := Lib.hid hadd
  have HL := Lib.hid hlen
  have HFB := Lib.hid hFb
  have c0 := (HRR.out X (Chg.refl _ _)).1
  have HVN : Hid (valN bias Rs Ys ⟨ra, 28, sy, add⟩ = (sa, 83, 0)) := Lib.hid (by unfold valN; simp only [← hsa, ← hpp]; simp)
  clear hF hlen hb hra hadd hq hpp hy hz hsa hcX hrF hrR hX hFb L1 L2 L3 hpl hsl
  unfold fileA
  go_enter Try.func12, Try.ntmps12
  go_upto_region 1 with (fail)
  rw [← HX.out, ← HFB.out]
  clear HX
  go_wp2_with fail
  refine (low_any (q : Int) X).mono ?_
  rintro e w' ⟨rfl, hw⟩
  obtain rfl := hw.symm
  clear hw
  rw [HPQ.out]
  clear wa wb c0
  go_upto_region 2 with (fail)
  have wc := WC.out
  have wd := WD.out
  have wc2 := WC2.out
  have wd2 := WD2.out
  refine wp_region_C (fun w' => Chg [] X w' ∧ w'.row? Fb = some (fileA v) ∧ w'.cell? ⟨Fb + 1, 2, none⟩ = some (.int .i64 sy) ∧ w'.cell? ⟨Fb + 1, 3, none⟩ = some (.int .u32 (add : Int))) [(0, 1), (1, 0), (2, 0), (3, 1), (5, 0), (6, 1), (7, 0), (4, 2), (8, 0), (9, 0), (10, 0)] rfl (by kernel_rfl) ?hSA ?hTA
  case hSA => exact ⟨(Chg.refl _ _).drew, HRF.out _ (Chg.refl _ _).drew, (HRR.out _ (Chg.refl _ _).drew).2.2.1, (HRR.out _ (Chg.refl _ _).drew).2.2.2⟩
  refine wpT_load_part a30 [v.e, v.sg, .slice v.prl v.nrl v.crl, .slice v.psy v.nsy v.csy] (some 24) _ rfl rfl rfl (by rfl) rfl rfl (fun w' hw j u hu => by rw [Nat.zero_add, row_cell hw.2.1]; simpa [fileA] using hu) ?_
  try simp only [Act.put, List.setIfInBounds_toArray, List.set_cons_zero, List.set_cons_succ]
  try simp only [Act.put, List.setIfInBounds_toArray, List.set_cons_zero, List.set_cons_succ]
  refine wpT_pureD (v := ?_) (some 25) rfl rfl (by rfl) (fun w' => ?_) ?_
  rotate_left
  · (go_simp; try with_reducible rfl)
  try simp only [Act.put, List.setIfInBounds_toArray, List.set_cons_zero, List.set_cons_succ]
  refine wpT_pureD (v := ?_) (some 26) rfl rfl (by rfl) (fun w' => ?_) ?_
  rotate_left
  · (go_simp; try with_reducible rfl)
  try simp only [Act.put, List.setIfInBounds_toArray, List.set_cons_zero, List.set_cons_succ]
  refine wpT_readD (v := ?_) (some 27) rfl rfl (by rfl) (fun w' hw => ?_) ?_
  rotate_left
  · (obtain ⟨q0, q1, q2, q3⟩ := hw; go_simp; try with_reducible rfl)
  try simp only [Act.put, List.setIfInBounds_toArray, List.set_cons_zero, List.set_cons_succ]
  refine wpT_pureD (v := ?_) (some 29) rfl rfl (by rfl) (fun w' => ?_) ?_
  rotate_left
  · (go_simp; try with_reducible rfl)
  try simp only [Act.put, List.setIfInBounds_toArray, List.set_cons_zero, List.set_cons_succ]
  refine wpT_readD (v := ?_) (some 30) rfl rfl (by rfl) (fun w' hw => ?_) ?_
  rotate_left
  · (obtain ⟨q0, q1, q2, q3⟩ := hw; go_simp; try with_reducible rfl)
  try simp only [Act.put, List.setIfInBounds_toArray, List.set_cons_zero, List.set_cons_succ]
  refine wpT_pureD (v := ?_) (some 31) rfl rfl (by rfl) (fun w' => ?_) ?_
  rotate_left
  · (go_simp; try with_reducible rfl)
  try simp only [Act.put, List.setIfInBounds_toArray, List.set_cons_zero, List.set_cons_succ]
  refine wpT_eff rfl (by rfl) (fun K hK => ?_)
  go_wp2_with fail
  refine (rsym_any (HFX.out _ (Chg.refl _ _).drew) bias HB.out sy).mono ?_
  rintro e w3 ⟨rfl, hc3⟩
  rw [← HY.out]
  go_wp2_with fail
  have hc4 := (Chg.refl [] X).drew.trans hc3
  refine hK _ _ ⟨hc4, HRF.out _ hc4, (HRR.out _ hc4).2.2.1, (HRR.out _ hc4).2.2.2⟩ ?_
  clear hK K
  refine wpT_pureD (v := ?_) (some 32) rfl rfl (by rfl) (fun w' => ?_) ?_
  rotate_left
  · (go_simp; try with_reducible rfl)
  try simp only [Act.put, List.setIfInBounds_toArray, List.set_cons_zero, List.set_cons_succ]
  refine wpT_call (d := some 33) (f := 24) (args := #[.int .i64 (z : Int)]) (v := .int .i64 (sa : Int)) rfl rfl (by rfl) (fun w' => by first | rfl | (go_simp; done) | (go_simp; rfl)) (fun w' => by rw [← HZS.out]; exact low_any (z : Int) w') ?_
  try simp only [Act.put, List.setIfInBounds_toArray, List.set_cons_zero, List.set_cons_succ]
  try simp only [Act.put, List.setIfInBounds_toArray, List.set_cons_zero, List.set_cons_succ]
  refine wpT_pureD (v := ?_) (some 10) rfl rfl (by rfl) (fun w' => ?_) ?_
  rotate_left
  · (go_simp; try with_reducible rfl)
  try simp only [Act.put, List.setIfInBounds_toArray, List.set_cons_zero, List.set_cons_succ]
  refine wpT_end ?_
  have HC4 := Lib.hid hc4
  have c1 := (HRR.out _ hc4).2.1
  clear wc wd wc2 wd2 hc3 hc4
  go_wp2
  go_ret3
  exact ⟨by rw [HVN.out]; rfl, HCX.out.trans HC4.out⟩
end Go.Proofs.L
