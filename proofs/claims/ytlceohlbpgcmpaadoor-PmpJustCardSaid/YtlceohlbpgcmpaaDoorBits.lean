/- Proved here: lemmas and contracts (Bits) for the laws of this seat, for all values of the stated types; no further condition. -/
import Derived.Test.YtlceohlbpgcmpaaDoorProg
import Derived.Test.YtlceohlbpgcmpaaDoorRows
import Derived.StillTailTactics
import Derived.Lib.Hide
import Derived.Lib.TrailingZeros
import Derived.Lib.Tables
import Derived.OwnWalk
import Derived.Deep.DeepCutAuto
import Derived.Deep.CutBlock
import Derived.ProofKit
import Derived.LaidMore
import Derived.OpenShut
import Derived.Stop.Joined
import Derived.Test.YtlceohlbpgcmpaaDoorRow
import Derived.Test.YtlceohlbpgcmpaaDoorRegT
import Derived.Test.YtlceohlbpgcmpaaDoorPart
import Derived.Test.YtlceohlbpgcmpaaDoorMem
open Go Go.RowKit Go.Lib Go.ChangeShapes Go.WideShapes Go.ChangeAt Go.WideMaps Go.WideElems
open Go.Proofs.YtlceohlbpgcmpaaDoor
namespace Go.Proofs.L
attribute [local irreducible] wpT
/-- what the listed variable gives the walks -/
def LaidOk (W : World) : Prop := ∀ (i c : Nat), Lib.deBruijn32tab[i]? = some c → W.cell? ⟨0, i, none⟩ = some (.int .u8 (c : Int))
theorem gTab : Tryd.prog.globalNamed "math/bits.deBruijn32tab" = some 0 := by kernel_rfl
theorem tTab : (Tryd.prog.globals[0]?).map (·.type) = some 60 := by kernel_rfl
theorem of_laid {W : World} (h : laidMetH Tryd.prog [("math/bits.deBruijn32tab", Rows.laid_math_bits_deBruijn32tab)] W) : LaidOk W := by
  rw [MakeChecks.laidMetH_plain _ _ _ (by kernel_rfl)] at h
  obtain ⟨ps, ⟨g0, t0, cs0, f0, p0, q0, hg0, ht0, hv0, hd0, _, _⟩, _, _⟩ := h
  obtain rfl := Option.some.inj (gTab.symm.trans hg0)
  obtain rfl := Option.some.inj (tTab.symm.trans ht0)
  obtain ⟨xs, m1, _, hx1, hlen, hn3, hel⟩ := DataW.trod_array Tryd.underlying60 hd0
  intro i c hc
  have hi : i < 32 := by
    have := (List.getElem?_eq_some_iff.1 hc).1
    exact Nat.lt_of_lt_of_le this (by decide)
  have h0 := hel i hi
  have h2 : xs[i]? = some (xs[i]'(by omega)) := by simp
  rw [h2] at h0
  obtain ⟨k, e1, e2, _⟩ := DataW.trod_int Tryd.underlying5 h0
  have c22 : Tryd.prog.cellsOf 5 = 1 := by kernel_rfl
  rw [c22, Nat.mul_one] at e1
  have hv := World.var?_cell gTab hv0 i
  have e3 : cs0[i]? = some (.int .u8 k) := by
    have := congrArg (fun l => l[0]?) e1
    simp only [List.getElem?_take, List.getElem?_drop, Nat.zero_lt_one, if_true, Nat.add_zero, List.getElem?_cons_zero] at this
    rw [← this]; simp
  have e4 : (Rows.laid_math_bits_deBruijn32tab : DataW Unit) = .agg (Lib.deBruijn32tab.map fun (c : Nat) => .lit (.int .u8 (c : Int))) := rfl
  rw [e4] at hx1
  simp only [Prod.mk.injEq, DataW.agg.injEq] at hx1
  have e5 := congrArg (fun l => l[i]?) hx1.1
  simp only [List.getElem?_map, hc, h2, Option.map_some, e2, Option.some.injEq, DataW.lit.injEq, Lit.int.injEq, true_and] at e5
  rw [hv, e3, e5]
theorem LaidOk.keep {w w' : World} (h : LaidOk w) (hc : Chg [] w w') : LaidOk w' := fun i c hi => by
  have := h i c hi
  rw [World.cell?_of_block (w := w) (hc.block 0 (World.block_lt_of_cell? w _ this) (by simp))]; exact this
theorem u32w (x : Int) : IntKind.u32.wrap x = x % 4294967296 := by simp [IntKind.wrap, IntKind.bits, IntKind.signed]
theorem u64w (x : Int) : IntKind.u64.wrap x = x % 18446744073709551616 := by simp [IntKind.wrap, IntKind.bits, IntKind.signed]
def popN (k : Nat) : Nat := (pop8 (k : Int)).toNat
theorem popN_le : ∀ k : Nat, k < 256 → pop8 (k : Int) = (popN k : Int) ∧ popN k ≤ 8 := by decide +kernel
def onesN (x : Nat) : Nat := popN (x / 16777216) + popN (x / 65536 % 256) + popN (x / 256 % 256) + popN (x % 256)
def idxS (k : Nat) : Sem Next := do let v ← Instr.index 9 (.string pop8tab) (.int .u32 (k : Int)); pure (.value v)
theorem idx_ok (k : Nat) (h : k < 256) (w : World) : (idxS k).run Tryd.prog w = .ok (.value (.int .u8 (popN k : Nat))) w := by
  unfold idxS
  have := run_index_pop8tab (P := Tryd.prog) w 9 .u32 (k : Int) (by kernel_rfl) (by omega) (by omega)
  rw [Sem.run_bind, this, (popN_le k h).1]
  rfl
theorem and_u32 (n m k : Nat) (hn : n < 4294967296) (hm : m = 2 ^ k - 1) (hk : k < 32) : bits .and .u32 (n : Int) (m : Int) = ((n % 2 ^ k : Nat) : Int) := by
  have hp : 2 ^ k < 4294967296 := by have := Nat.pow_lt_pow_right (a := 2) (by decide) hk; simpa using this
  have h1 : (BitVec.ofInt 32 (n : Int)).toNat = n := by rw [BitVec.ofInt_natCast, BitVec.toNat_ofNat]; exact Nat.mod_eq_of_lt (by omega)
  have h2 : (BitVec.ofInt 32 (m : Int)).toNat = m := by rw [BitVec.ofInt_natCast, BitVec.toNat_ofNat]; exact Nat.mod_eq_of_lt (by omega)
  show IntKind.u32.wrap ((BitVec.ofInt 32 (n : Int) &&& BitVec.ofInt 32 (m : Int)).toNat : Int) = _
  rw [BitVec.toNat_and, h1, h2, hm, Nat.and_two_pow_sub_one_eq_mod, u32w]
  have := Nat.mod_le n (2 ^ k)
  omega
set_option maxRecDepth 100000 in
theorem ones_any (x : Nat) (hx : x < 4294967296) (w : World) : Calls Tryd.prog 24 #[.int .u32 (x : Int)] w fun e w' => e = .returned (.int .i64 (onesN x : Nat)) ∧ w' = w.drew := by
  have b1 : bits .and .u32 ((x / 65536 : Nat) : Int) 255 = ((x / 65536 % 256 : Nat) : Int) := and_u32 (x / 65536) 255 8 (by omega) (by decide) (by decide)
  have b2 : bits .and .u32 ((x / 256 : Nat) : Int) 255 = ((x / 256 % 256 : Nat) : Int) := and_u32 (x / 256) 255 8 (by omega) (by decide) (by decide)
  have b3 : bits .and .u32 (x : Int) 255 = ((x % 256 : Nat) : Int) := and_u32 x 255 8 (by omega) (by decide) (by decide)
  have e0 : (x : Int) / 16777216 = ((x / 16777216 : Nat) : Int) := by omega
  have e1 : (x : Int) / 65536 = ((x / 65536 : Nat) : Int) := by omega
  have e2 : (x : Int) / 256 = ((x / 256 : Nat) : Int) := by omega
  obtain ⟨j1, hj1⟩ : ∃ k, k = x / 65536 := ⟨_, rfl⟩
  obtain ⟨j2, hj2⟩ : ∃ k, k = x / 256 := ⟨_, rfl⟩
  obtain ⟨k0, h0⟩ : ∃ k, k = x / 16777216 := ⟨_, rfl⟩
  obtain ⟨k1, h1⟩ : ∃ k, k = x / 65536 % 256 := ⟨_, rfl⟩
  obtain ⟨k2, h2⟩ : ∃ k, k = x / 256 % 256 := ⟨_, rfl⟩
  obtain ⟨k3, h3⟩ : ∃ k, k = x % 256 := ⟨_, rfl⟩
  rw [← h1, ← hj1] at b1
  rw [← h2, ← hj2] at b2
  rw [← hj1] at e1
  rw [← hj2] at e2
  rw [← h3] at b3
  rw [← h0] at e0
  obtain ⟨hp0, g0⟩ := popN_le k0 (by omega)
  obtain ⟨hp1, g1⟩ := popN_le k1 (by omega)
  obtain ⟨hp2, g2⟩ := popN_le k2 (by omega)
  obtain ⟨hp3, g3⟩ := popN_le k3 (by omega)
  have i0 := Lib.hid (idx_ok k0 (by omega))
  have i1 := Lib.hid (idx_ok k1 (by omega))
  have i2 := Lib.hid (idx_ok k2 (by omega))
  have i3 := Lib.hid (idx_ok k3 (by omega))
  have hon : onesN x = popN k0 + popN k1 + popN k2 + popN k3 := by rw [h0, h1, h2, h3]; rfl
  obtain ⟨p0, z0⟩ : ∃ p, p = popN k0 := ⟨_, rfl⟩
  obtain ⟨p1, z1⟩ : ∃ p, p = popN k1 := ⟨_, rfl⟩
  obtain ⟨p2, z2⟩ : ∃ p, p = popN k2 := ⟨_, rfl⟩
  obtain ⟨p3, z3⟩ : ∃ p, p = popN k3 := ⟨_, rfl⟩
  rw [← z0] at i0 g0 hon
  rw [← z1] at i1 g1 hon
  rw [← z2] at i2 g2 hon
  rw [← z3] at i3 g3 hon
  rw [hon]
  have s1 : IntKind.u8.wrap ((p0 : Int) + p1) = (p0 : Int) + p1 := by simp [IntKind.wrap, IntKind.bits, IntKind.signed]; omega
  have s2 : IntKind.u8.wrap ((p0 : Int) + p1 + p2) = (p0 : Int) + p1 + p2 := by simp [IntKind.wrap, IntKind.bits, IntKind.signed]; omega
  have s3 : IntKind.u8.wrap ((p0 : Int) + p1 + p2 + p3) = (p0 : Int) + p1 + p2 + p3 := by simp [IntKind.wrap, IntKind.bits, IntKind.signed]; omega
  have s4 : IntKind.i64.wrap ((p0 : Int) + p1 + p2 + p3) = ((p0 + p1 + p2 + p3 : Nat) : Int) := by rw [IntKind.wrap_i64]; omega
  clear hj1 hj2 h0 h1 h2 h3 g0 g1 g2 g3 hp0 hp1 hp2 hp3 z0 z1 z2 z3 hon hx
  go_enter Tryd.func24, Tryd.ntmps24
  go_upto_region 1 with (fail)
  refine wp_region_C (fun w' => True) [(0, 0), (1, 0), (2, 0), (3, 0), (4, 0), (5, 0), (6, 0), (7, 0), (8, 0), (9, 0), (10, 0), (11, 0), (12, 0), (13, 0), (14, 0), (15, 0), (16, 0), (17, 0), (18, 0)] rfl (by kernel_rfl) ?hSA ?hTA
  case hSA => trivial
  refine wpT_pureD (v := ?_) (some 3) rfl rfl (by rfl) (fun w' => ?_) ?_
  rotate_left
  · (go_simp; try with_reducible rfl)
  try simp only [Act.put, List.setIfInBounds_toArray, List.set_cons_zero, List.set_cons_succ]
  refine wpT_pureD (v := ?_) (some 4) rfl rfl (by rfl) (fun w' => ?_) ?_
  rotate_left
  · (go_simp; try with_reducible rfl)
  try simp only [Act.put, List.setIfInBounds_toArray, List.set_cons_zero, List.set_cons_succ]
  refine wpT_pureD (v := .int .u8 (p0 : Int)) (some 5) rfl rfl (by rfl) (fun w' => Eq.trans (b := (idxS k0).run Tryd.prog w') (by kernel_rfl) (i0.out w')) ?_
  try simp only [Act.put, List.setIfInBounds_toArray, List.set_cons_zero, List.set_cons_succ]
  refine wpT_pureD (v := ?_) (some 6) rfl rfl (by rfl) (fun w' => ?_) ?_
  rotate_left
  · (go_simp; try with_reducible rfl)
  try simp only [Act.put, List.setIfInBounds_toArray, List.set_cons_zero, List.set_cons_succ]
  refine wpT_pureD (v := ?_) (some 7) rfl rfl (by rfl) (fun w' => ?_) ?_
  rotate_left
  · (go_simp; try with_reducible rfl)
  try simp only [Act.put, List.setIfInBounds_toArray, List.set_cons_zero, List.set_cons_succ]
  refine wpT_pureD (v := ?_) (some 8) rfl rfl (by rfl) (fun w' => ?_) ?_
  rotate_left
  · (go_simp; try with_reducible rfl)
  try simp only [Act.put, List.setIfInBounds_toArray, List.set_cons_zero, List.set_cons_succ]
  refine wpT_pureD (v := .int .u8 (p1 : Int)) (some 9) rfl rfl (by rfl) (fun w' => Eq.trans (b := (idxS k1).run Tryd.prog w') (by kernel_rfl) (i1.out w')) ?_
  try simp only [Act.put, List.setIfInBounds_toArray, List.set_cons_zero, List.set_cons_succ]
  refine wpT_pureD (v := ?_) (some 10) rfl rfl (by rfl) (fun w' => ?_) ?_
  rotate_left
  · (go_simp; try with_reducible rfl)
  try simp only [Act.put, List.setIfInBounds_toArray, List.set_cons_zero, List.set_cons_succ]
  refine wpT_pureD (v := ?_) (some 11) rfl rfl (by rfl) (fun w' => ?_) ?_
  rotate_left
  · (go_simp; try with_reducible rfl)
  try simp only [Act.put, List.setIfInBounds_toArray, List.set_cons_zero, List.set_cons_succ]
  refine wpT_pureD (v := ?_) (some 12) rfl rfl (by rfl) (fun w' => ?_) ?_
  rotate_left
  · (go_simp; try with_reducible rfl)
  try simp only [Act.put, List.setIfInBounds_toArray, List.set_cons_zero, List.set_cons_succ]
  refine wpT_pureD (v := ?_) (some 13) rfl rfl (by rfl) (fun w' => ?_) ?_
  rotate_left
  · (go_simp; try with_reducible rfl)
  try simp only [Act.put, List.setIfInBounds_toArray, List.set_cons_zero, List.set_cons_succ]
  refine wpT_pureD (v := .int .u8 (p2 : Int)) (some 14) rfl rfl (by rfl) (fun w' => Eq.trans (b := (idxS k2).run Tryd.prog w') (by kernel_rfl) (i2.out w')) ?_
  try simp only [Act.put, List.setIfInBounds_toArray, List.set_cons_zero, List.set_cons_succ]
  refine wpT_pureD (v := ?_) (some 15) rfl rfl (by rfl) (fun w' => ?_) ?_
  rotate_left
  · (go_simp; try with_reducible rfl)
  try simp only [Act.put, List.setIfInBounds_toArray, List.set_cons_zero, List.set_cons_succ]
  refine wpT_pureD (v := ?_) (some 16) rfl rfl (by rfl) (fun w' => ?_) ?_
  rotate_left
  · (go_simp; try with_reducible rfl)
  try simp only [Act.put, List.setIfInBounds_toArray, List.set_cons_zero, List.set_cons_succ]
  refine wpT_pureD (v := ?_) (some 17) rfl rfl (by rfl) (fun w' => ?_) ?_
  rotate_left
  · (go_simp; try with_reducible rfl)
  try simp only [Act.put, List.setIfInBounds_toArray, List.set_cons_zero, List.set_cons_succ]
  refine wpT_pureD (v := .int .u8 (p3 : Int)) (some 18) rfl rfl (by rfl) (fun w' => Eq.trans (b := (idxS k3).run Tryd.prog w') (by kernel_rfl) (i3.out w')) ?_
  try simp only [Act.put, List.setIfInBounds_toArray, List.set_cons_zero, List.set_cons_succ]
  refine wpT_pureD (v := ?_) (some 19) rfl rfl (by rfl) (fun w' => ?_) ?_
  rotate_left
  · (go_simp; try with_reducible rfl)
  try simp only [Act.put, List.setIfInBounds_toArray, List.set_cons_zero, List.set_cons_succ]
  refine wpT_pureD (v := ?_) (some 20) rfl rfl (by rfl) (fun w' => ?_) ?_
  rotate_left
  · (go_simp; try with_reducible rfl)
  try simp only [Act.put, List.setIfInBounds_toArray, List.set_cons_zero, List.set_cons_succ]
  refine wpT_pureD (v := ?_) (some 2) rfl rfl (by rfl) (fun w' => ?_) ?_
  rotate_left
  · (go_simp; try with_reducible rfl)
  try simp only [Act.put, List.setIfInBounds_toArray, List.set_cons_zero, List.set_cons_succ]
  refine wpT_end ?_
  go_wp2
  go_ret
  exact ⟨rfl, rfl⟩
set_option maxRecDepth 100000 in
theorem tz_any (x : Nat) (hx : x < 4294967296) (w : World) (hL : LaidOk w) : Calls Tryd.prog 25 #[.int .u32 (x : Int)] w fun e w' => e = .returned (.int .i64 (Lib.ctz 32 x : Nat)) ∧ w' = w := by
  by_cases h0 : x = 0
  · subst h0
    go_enter Tryd.func25, Tryd.ntmps25
    go_wp2
    go_ret
    exact ⟨rfl, rfl⟩
  · obtain ⟨hb, hlt⟩ := Lib.lowest_bit 32 x h0 hx
    obtain ⟨k, hk⟩ : ∃ k, k = Lib.ctz 32 x := ⟨_, rfl⟩
    rw [← hk] at hb hlt ⊢
    obtain ⟨d1, d2⟩ := Lib.deBruijn32_at k hlt
    obtain ⟨j, hj⟩ : ∃ j, j = 2 ^ k * 125613361 % 4294967296 / 134217728 := ⟨_, rfl⟩
    rw [← hj] at d1 d2
    have hc : w.cell? ⟨0, j, none⟩ = some (.int .u8 (k : Int)) := hL j k (by
      rw [← d2, List.getD_eq_getElem?_getD, List.getElem?_eq_getElem (show j < Lib.deBruijn32tab.length from d1)]; rfl)
    have n0 : ((x : Int) == 0) = false := by simpa using h0
    have hneg : IntKind.u32.wrap (-(x : Int)) = ((2 ^ 32 - x : Nat) : Int) := by rw [u32w]; omega
    have hand : bits .and .u32 (x : Int) ((2 ^ 32 - x : Nat) : Int) = ((2 ^ k : Nat) : Int) := by
      rw [← hb]
      show IntKind.u32.wrap ((BitVec.ofInt 32 (x : Int) &&& BitVec.ofInt 32 ((2 ^ 32 - x : Nat) : Int)).toNat : Int) = _
      rw [BitVec.toNat_and, BitVec.ofInt_natCast, BitVec.ofInt_natCast, BitVec.toNat_ofNat, BitVec.toNat_ofNat, Nat.mod_eq_of_lt (show x < 2 ^ 32 from hx), Nat.mod_eq_of_lt (show 2 ^ 32 - x < 2 ^ 32 by omega), u32w]
      have : x &&& (2 ^ 32 - x) ≤ x := Nat.and_le_left
      omega
    obtain ⟨ng, hng⟩ : ∃ y, y = 2 ^ 32 - x := ⟨_, rfl⟩
    rw [← hng] at hneg hand
    obtain ⟨pw, hpw⟩ : ∃ y, y = 2 ^ k := ⟨_, rfl⟩
    rw [← hpw] at hand hj
    have hmul : (pw : Int) * 125613361 % 4294967296 / 134217728 = (j : Int) := by rw [hj, Int.natCast_ediv, Int.natCast_emod, Int.natCast_mul]; rfl
    have hjI : (j : Int) < 32 := by omega
    have hj0 : (0 : Int) ≤ (j : Int) := by omega
    have wk : wrap64 (k : Int) = (k : Int) := IntWalk.wrap64_in _ ⟨by omega, by omega⟩
    clear hL hb hlt hk d1 d2 hj hng hpw h0 hx
    go_enter Tryd.func25, Tryd.ntmps25
    go_wp2
    go_ret
    exact ⟨congrArg (fun z => Ending.returned (.int .i64 z)) wk, rfl⟩
end Go.Proofs.L
