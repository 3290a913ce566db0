/- Proved here: lemmas and contracts (NumbersWalk) for the laws of this seat, for all values of the stated types; no further condition. -/
import Derived.Test.YtdccfeideihmiaaDoorRefSet
import Derived.Test.YtdccfeideihmiaaDoorDecodesWalk
open Go Go.RowKit Go.Lib
namespace Go.Proofs.L
def cN : List Nat := [73, 83, 66, 85, 74]
def gN (x : Nat) : List Nat := [immI x, immS x, immB x, immU x, immJ x]
def sN (x y : Nat) : List Nat := [setI x y, setS x y, setB x y, setU x y, setJ x y]
theorem gN_ok (x : Nat) (hx : x < 4294967296) : ∀ k, k < 5 → immL (cN.getD k 0) x % 4294967296 = ((gN x).getD k 0 : Nat) := by
  intro k hk
  match k, hk with
  | 0, _ => show immL 73 x % 4294967296 = ((immI x : Nat) : Int); rw [immI_law x hx]; unfold immL; simp only [Nat.reduceEqDiff, if_true, if_false, or_self]
  | 1, _ => show immL 83 x % 4294967296 = ((immS x : Nat) : Int); rw [immS_law x hx]; unfold immL; simp only [Nat.reduceEqDiff, if_true, if_false, or_self]
  | 2, _ => show immL 66 x % 4294967296 = ((immB x : Nat) : Int); rw [immB_law x hx]; unfold immL; simp only [Nat.reduceEqDiff, if_true, if_false, or_self]
  | 3, _ => show immL 85 x % 4294967296 = ((immU x : Nat) : Int); rw [immU_law x hx]; unfold immL; simp only [Nat.reduceEqDiff, if_true, if_false, or_self]
  | 4, _ => show immL 74 x % 4294967296 = ((immJ x : Nat) : Int); rw [immJ_law x hx]; unfold immL; simp only [Nat.reduceEqDiff, if_true, if_false, or_self]
  | n + 5, h => omega
theorem rset_k (x y : Nat) (hx : x < 4294967296) (hy : y < 4294967296) (k : Nat) (hk : k < 5) (w : World) : Calls Tryd.prog 27 #[.string (strB (cN.getD k 0)), .int .i64 (x : Int), .int .i64 (y : Int)] w fun e w' => e = .returned (.int .i64 ((sN x y).getD k 0 : Nat)) ∧ Chg [] w w' := by
  match k, hk with
  | 0, _ => exact rset_I x y hx hy w
  | 1, _ => exact rset_S x y hx hy w
  | 2, _ => exact rset_B x y hx hy w
  | 3, _ => exact rset_U x y hx hy w
  | 4, _ => exact rset_J x y hx hy w
  | n + 5, h => omega
theorem sN_lt (x y : Nat) (hy : y < 4294967296) (k : Nat) (hk : k < 5) : (sN x y).getD k 0 < 4294967296 := by
  match k, hk with
  | 0, _ => exact setI_lt x y
  | 1, _ => exact setS_lt x y
  | 2, _ => exact setB_lt x y
  | 3, _ => exact setU_lt x y hy
  | 4, _ => exact setJ_lt x y
  | n + 5, h => omega
theorem cN_let : ∀ k, k < 5 → (cN.getD k 0 = 85 ∨ cN.getD k 0 = 74 ∨ cN.getD k 0 = 73 ∨ cN.getD k 0 = 66 ∨ cN.getD k 0 = 83 ∨ cN.getD k 0 = 82 ∨ cN.getD k 0 = 84 ∨ cN.getD k 0 = 78 ∨ cN.getD k 0 = 67 ∨ cN.getD k 0 = 90 ∨ cN.getD k 0 = 70) := by decide
def u5 (l : List Nat) : Array Value := (l.map fun (g : Nat) => Value.int .u32 (g : Int)).toArray
theorem u5_get (l : List Nat) (k : Nat) (h : k < l.length) : (u5 l)[k]? = some (.int .u32 (l.getD k 0 : Nat)) := by
  unfold u5; rw [List.getElem?_toArray, List.getElem?_map, List.getD_eq_getElem?_getD, List.getElem?_eq_getElem h]; rfl
def strs5 : Array Value := #[.string ⟨#[73]⟩, .string ⟨#[83]⟩, .string ⟨#[66]⟩, .string ⟨#[85]⟩, .string ⟨#[74]⟩]
theorem strs5_get : ∀ k, k < 5 → strs5[k]? = some (.string (strB (cN.getD k 0))) := by
  intro k hk
  match k, hk with
  | 0, _ => rfl
  | 1, _ => rfl
  | 2, _ => rfl
  | 3, _ => rfl
  | 4, _ => rfl
  | n + 5, h => omega
set_option maxRecDepth 100000 in
set_option maxHeartbeats 600000 in
theorem numbers_walk (x y : Nat) (hx : x < 4294967296) (hy : y < 4294967296) (w : World) (h : LaidOk w) : Calls Tryd.prog 7 #[.int .u32 (x : Int), .int .u32 (y : Int)] w fun e w' => e = .returned (.bool true) ∧ Chg [] w w' := by
  have H := Lib.hid h
  obtain ⟨gI, hgI⟩ : ∃ g, g = immI x := ⟨_, rfl⟩
  obtain ⟨gS, hgS⟩ : ∃ g, g = immS x := ⟨_, rfl⟩
  obtain ⟨gB, hgB⟩ : ∃ g, g = immB x := ⟨_, rfl⟩
  obtain ⟨gU, hgU⟩ : ∃ g, g = immU x := ⟨_, rfl⟩
  obtain ⟨gJ, hgJ⟩ : ∃ g, g = immJ x := ⟨_, rfl⟩
  obtain ⟨sI, hsI⟩ : ∃ g, g = setI x y := ⟨_, rfl⟩
  obtain ⟨sS, hsS⟩ : ∃ g, g = setS x y := ⟨_, rfl⟩
  obtain ⟨sB, hsB⟩ : ∃ g, g = setB x y := ⟨_, rfl⟩
  obtain ⟨sU, hsU⟩ : ∃ g, g = setU x y := ⟨_, rfl⟩
  obtain ⟨sJ, hsJ⟩ : ∃ g, g = setJ x y := ⟨_, rfl⟩
  have HG : Hid (gN x = [gI, gS, gB, gU, gJ]) := Lib.hid (by rw [hgI, hgS, hgB, hgU, hgJ]; rfl)
  have HS : Hid (sN x y = [sI, sS, sB, sU, sJ]) := Lib.hid (by rw [hsI, hsS, hsB, hsU, hsJ]; rfl)
  have cI : Hid (∀ W, Calls Tryd.prog 16 #[.int .u32 (x : Int)] W fun e w' => e = .returned (.int .u32 (gI : Int)) ∧ w' = W) := Lib.hid (by rw [hgI]; exact immI_any x hx)
  have cS : Hid (∀ W, Calls Tryd.prog 17 #[.int .u32 (x : Int)] W fun e w' => e = .returned (.int .u32 (gS : Int)) ∧ w' = W) := Lib.hid (by rw [hgS]; exact immS_any x hx)
  have cB : Hid (∀ W, Calls Tryd.prog 18 #[.int .u32 (x : Int)] W fun e w' => e = .returned (.int .u32 (gB : Int)) ∧ w' = W) := Lib.hid (by rw [hgB]; exact immB_any x hx)
  have cU : Hid (∀ W, Calls Tryd.prog 19 #[.int .u32 (x : Int)] W fun e w' => e = .returned (.int .u32 (gU : Int)) ∧ w' = W) := Lib.hid (by rw [hgU]; exact immU_any x hx)
  have cJ : Hid (∀ W, Calls Tryd.prog 20 #[.int .u32 (x : Int)] W fun e w' => e = .returned (.int .u32 (gJ : Int)) ∧ w' = W) := Lib.hid (by rw [hgJ]; exact immJ_any x hx)
  have dI : Hid (∀ W, Calls Tryd.prog 21 #[.int .u32 (x : Int), .int .u32 (y : Int)] W fun e w' => e = .returned (.int .u32 (sI : Int)) ∧ w' = W) := Lib.hid (by rw [hsI]; exact setI_any x y)
  have dS : Hid (∀ W, Calls Tryd.prog 22 #[.int .u32 (x : Int), .int .u32 (y : Int)] W fun e w' => e = .returned (.int .u32 (sS : Int)) ∧ w' = W) := Lib.hid (by rw [hsS]; exact setS_any x y)
  have dB : Hid (∀ W, Calls Tryd.prog 23 #[.int .u32 (x : Int), .int .u32 (y : Int)] W fun e w' => e = .returned (.int .u32 (sB : Int)) ∧ w' = W) := Lib.hid (by rw [hsB]; exact setB_any x y)
  have dU : Hid (∀ W, Calls Tryd.prog 24 #[.int .u32 (x : Int), .int .u32 (y : Int)] W fun e w' => e = .returned (.int .u32 (sU : Int)) ∧ w' = W) := Lib.hid (by rw [hsU]; exact setU_any x y hy)
  have dJ : Hid (∀ W, Calls Tryd.prog 25 #[.int .u32 (x : Int), .int .u32 (y : Int)] W fun e w' => e = .returned (.int .u32 (sJ : Int)) ∧ w' = W) := Lib.hid (by rw [hsJ]; exact setJ_any x y)
  have eI : Hid (∀ W, Calls Tryd.prog 21 #[.int .u32 (x : Int), .int .u32 (gI : Int)] W fun e w' => e = .returned (.int .u32 (x : Int)) ∧ w' = W) := Lib.hid (fun W => by have := setI_any x gI W; rw [hgI, selfI x hx] at this; rw [hgI]; exact this)
  have eS : Hid (∀ W, Calls Tryd.prog 22 #[.int .u32 (x : Int), .int .u32 (gS : Int)] W fun e w' => e = .returned (.int .u32 (x : Int)) ∧ w' = W) := Lib.hid (fun W => by have := setS_any x gS W; rw [hgS, selfS x hx] at this; rw [hgS]; exact this)
  have eB : Hid (∀ W, Calls Tryd.prog 23 #[.int .u32 (x : Int), .int .u32 (gB : Int)] W fun e w' => e = .returned (.int .u32 (x : Int)) ∧ w' = W) := Lib.hid (fun W => by have := setB_any x gB W; rw [hgB, selfB x hx] at this; rw [hgB]; exact this)
  have eU : Hid (∀ W, Calls Tryd.prog 24 #[.int .u32 (x : Int), .int .u32 (gU : Int)] W fun e w' => e = .returned (.int .u32 (x : Int)) ∧ w' = W) := Lib.hid (fun W => by have := setU_any x gU (by rw [hgU]; unfold immU; omega) W; rw [hgU, selfU x hx] at this; rw [hgU]; exact this)
  have eJ : Hid (∀ W, Calls Tryd.prog 25 #[.int .u32 (x : Int), .int .u32 (gJ : Int)] W fun e w' => e = .returned (.int .u32 (x : Int)) ∧ w' = W) := Lib.hid (fun W => by have := setJ_any x gJ W; rw [hgJ, selfJ x hx] at this; rw [hgJ]; exact this)
  have HX := Lib.hid hx
  have HY := Lib.hid hy
  have HA : Hid ((x : Int) % 4294967296 = x) := Lib.hid (by omega)
  clear h hgI hgS hgB hgU hgJ hsI hsS hsB hsU hsJ hx hy
  go_enter Tryd.func7, Tryd.ntmps7
  go_wp2_with fail
  refine (fit_ok w H.out).mono ?_
  rintro e w1 ⟨rfl, hc1⟩
  have HC1 := Lib.hid hc1
  clear hc1
  go_wp2_with fail
  refine (cI.out _).mono ?_
  rintro e w0 ⟨rfl, rfl⟩
  go_wp2_with fail
  refine (cS.out _).mono ?_
  rintro e w0 ⟨rfl, rfl⟩
  go_wp2_with fail
  refine (cB.out _).mono ?_
  rintro e w0 ⟨rfl, rfl⟩
  go_wp2_with fail
  refine (cU.out _).mono ?_
  rintro e w0 ⟨rfl, rfl⟩
  go_wp2_with fail
  refine (cJ.out _).mono ?_
  rintro e w0 ⟨rfl, rfl⟩
  go_wp2_with fail
  refine (dI.out _).mono ?_
  rintro e w0 ⟨rfl, rfl⟩
  go_wp2_with fail
  refine (dS.out _).mono ?_
  rintro e w0 ⟨rfl, rfl⟩
  go_wp2_with fail
  refine (dB.out _).mono ?_
  rintro e w0 ⟨rfl, rfl⟩
  go_wp2_with fail
  refine (dU.out _).mono ?_
  rintro e w0 ⟨rfl, rfl⟩
  go_wp2_with fail
  refine (dJ.out _).mono ?_
  rintro e w0 ⟨rfl, rfl⟩
  go_wp2_with fail
  obtain ⟨B, hB⟩ : ∃ B, B = w0.heap.size := ⟨_, rfl⟩
  obtain ⟨V, hV⟩ : ∃ V, V = ((w0.alloc (.cells #[.int .u32 (gI : Int), .int .u32 (gS : Int), .int .u32 (gB : Int), .int .u32 (gU : Int), .int .u32 (gJ : Int)] 45)).alloc (.cells #[.int .u32 (sI : Int), .int .u32 (sS : Int), .int .u32 (sB : Int), .int .u32 (sU : Int), .int .u32 (sJ : Int)] 45)).alloc (.cells #[.string ⟨#[73]⟩, .string ⟨#[83]⟩, .string ⟨#[66]⟩, .string ⟨#[85]⟩, .string ⟨#[74]⟩] 9) := ⟨_, rfl⟩
  have r0 : V.row? B = some (u5 (gN x)) := by
    rw [hV, row_alloc_past _ _ _ (by simp; omega), row_alloc_past _ _ _ (by simp; omega), HG.out]; exact row_alloc_at _ _ _ _ hB
  have r1 : V.row? (B + 1) = some (u5 (sN x y)) := by
    rw [hV, row_alloc_past _ _ _ (by simp; omega), HS.out]; exact row_alloc_at _ _ _ _ (by simp; omega)
  have r2 : V.row? (B + 1 + 1) = some strs5 := by
    rw [hV]; exact row_alloc_at _ _ _ _ (by simp; omega)
  have hcV : Chg [] w V := by rw [hV]; exact ((HC1.out.alloc _).alloc _).alloc _
  rw [← hB, ← hV]
  have HR0 := Lib.hid r0
  have HR1 := Lib.hid r1
  have HR2 := Lib.hid r2
  have HCV := Lib.hid hcV
  clear hB hV r0 r1 r2 hcV HC1
  go_loopw [40, 7, 8] (fun i _ _ wr => ∃ k : Nat, k ≤ 5 ∧ i = .int .i64 k ∧ Chg [] V wr) (fun i _ _ _ => 5 - (intOf i).toNat)
  case atStart => exact ⟨0, by omega, rfl, Chg.refl _ _⟩
  case round =>
    obtain ⟨k, hk, rfl, hcr⟩ := hrel
    by_cases hk2 : k < 5
    · have dk : decide ((k : Int) < 5) = true := by simp; omega
      have hkI : (k : Int) < 5 := by omega
      obtain ⟨c, hc⟩ : ∃ c, c = cN.getD k 0 := ⟨_, rfl⟩
      obtain ⟨g, hg⟩ : ∃ g, g = (gN x).getD k 0 := ⟨_, rfl⟩
      obtain ⟨s, hs⟩ : ∃ s, s = (sN x y).getD k 0 := ⟨_, rfl⟩
      have HZ := rimm_any c x HX.out (by rw [hc]; exact cN_let k hk2)
      have HT := rset_k x y HX.out HY.out k hk2
      have hz := gN_ok x HX.out k hk2
      rw [← hc] at hz HT
      have hsl := sN_lt x y HY.out k hk2
      rw [← hs] at HT hsl
      have hslI : (s : Int) < 4294967296 := by omega
      rw [← hg] at hz
      obtain ⟨z, hzz⟩ : ∃ z, z = immL c x := ⟨_, rfl⟩
      rw [← hzz] at hz HZ
      rw [← u32w] at hz
      have c2 : wr.cell? ⟨B + 1 + 1, k, none⟩ = some (.string (strB c)) := by
        rw [row_cell (w := wr) (by rw [hcr.row (row_lt HR2.out) (by simp)]; exact HR2.out), hc]; exact strs5_get k hk2
      have c0 : wr.cell? ⟨B, k, none⟩ = some (.int .u32 (g : Int)) := by
        rw [row_cell (w := wr) (by rw [hcr.row (row_lt HR0.out) (by simp)]; exact HR0.out), hg]; exact u5_get _ k hk2
      have c1 : wr.cell? ⟨B + 1, k, none⟩ = some (.int .u32 (s : Int)) := by
        rw [row_cell (w := wr) (by rw [hcr.row (row_lt HR1.out) (by simp)]; exact HR1.out), hs]; exact u5_get _ k hk2
      have HCR := Lib.hid hcr
      have HZ := Lib.hid HZ
      have HT := Lib.hid HT
      have HK2 := Lib.hid hk2
      have HBB : Hid (∀ W, Chg [] wr W → W.cell? ⟨B, k, none⟩ = some (.int .u32 (g : Int)) ∧ W.cell? ⟨B + 1, k, none⟩ = some (.int .u32 (s : Int))) := Lib.hid (fun W hW => by
        refine ⟨?_, ?_⟩
        · rw [World.cell?_of_block (w := wr) (hW.block _ (World.block_lt_of_cell? wr _ c0) (by simp))]; exact c0
        · rw [World.cell?_of_block (w := wr) (hW.block _ (World.block_lt_of_cell? wr _ c1) (by simp))]; exact c1)
      have hXr : (x : Int) % 4294967296 = x := HA.out
      clear hcr hk hk2 hc hg hs hzz hsl
      go_upto_region 8 with (fail)
      refine wp_region_C (fun W => W.cell? ⟨B, k, none⟩ = some (.int .u32 (g : Int)) ∧ W.cell? ⟨B + 1, k, none⟩ = some (.int .u32 (s : Int)) ∧ Chg [] wr W) [(0, 0), (1, 0), (2, 1), (3, 0), (4, 0), (5, 0), (6, 2), (7, 0), (8, 0), (9, 0), (10, 0), (11, 0), (12, 1), (13, 0), (14, 0), (15, 0), (16, 0), (17, 0), (18, 0), (19, 2), (20, 0), (21, 0)] rfl (by kernel_rfl) ?hSA ?hTA
      case hSA => exact ⟨c0, c1, (Chg.refl _ _).drew⟩
      refine wpT_pureD (v := ?_) (some 45) rfl rfl (by rfl) (fun w' => ?_) ?_
      rotate_left
      · (go_simp; try with_reducible rfl)
      try simp only [Act.put, List.setIfInBounds_toArray, List.set_cons_zero, List.set_cons_succ]
      refine wpT_pureD (v := ?_) (some 46) rfl rfl (by rfl) (fun w' => ?_) ?_
      rotate_left
      · (go_simp; try with_reducible rfl)
      try simp only [Act.put, List.setIfInBounds_toArray, List.set_cons_zero, List.set_cons_succ]
      refine wpT_readD (v := ?_) (some 47) rfl rfl (by rfl) (fun w' hw => ?_) ?_
      rotate_left
      · (obtain ⟨q0, q1, q2⟩ := hw; go_simp; try with_reducible rfl)
      try simp only [Act.put, List.setIfInBounds_toArray, List.set_cons_zero, List.set_cons_succ]
      refine wpT_pureD (v := ?_) (some 48) rfl rfl (by rfl) (fun w' => ?_) ?_
      rotate_left
      · (go_simp; try with_reducible rfl)
      try simp only [Act.put, List.setIfInBounds_toArray, List.set_cons_zero, List.set_cons_succ]
      refine wpT_pureD (v := ?_) (some 49) rfl rfl (by rfl) (fun w' => ?_) ?_
      rotate_left
      · (go_simp; try with_reducible rfl)
      try simp only [Act.put, List.setIfInBounds_toArray, List.set_cons_zero, List.set_cons_succ]
      refine wpT_pureD (v := ?_) (some 50) rfl rfl (by rfl) (fun w' => ?_) ?_
      rotate_left
      · (go_simp; try with_reducible rfl)
      try simp only [Act.put, List.setIfInBounds_toArray, List.set_cons_zero, List.set_cons_succ]
      refine wpT_eff rfl (by rfl) (fun K hK => ?_)
      go_wp2_with fail
      refine (HZ.out _).mono ?_
      rintro e wz ⟨rfl, hcz⟩
      have hcz2 := (Chg.refl [] wr).drew.trans hcz
      have HCZ := Lib.hid hcz2
      go_wp2_with fail
      refine hK _ _ ⟨(HBB.out _ hcz2).1, (HBB.out _ hcz2).2, hcz2⟩ ?_
      clear hK K hcz hcz2
      refine wpT_pureD (v := ?_) (some 52) rfl rfl (by rfl) (fun w' => ?_) ?_
      rotate_left
      · (go_simp; try with_reducible rfl)
      try simp only [Act.put, List.setIfInBounds_toArray, List.set_cons_zero, List.set_cons_succ]
      refine wpT_pureD (v := ?_) (some 53) rfl rfl (by rfl) (fun w' => ?_) ?_
      rotate_left
      · (go_simp; try with_reducible rfl)
      try simp only [Act.put, List.setIfInBounds_toArray, List.set_cons_zero, List.set_cons_succ]
      refine wpT_pureD (v := ?_) (some 54) rfl rfl (by rfl) (fun w' => ?_) ?_
      rotate_left
      · (go_simp; try with_reducible rfl)
      try simp only [Act.put, List.setIfInBounds_toArray, List.set_cons_zero, List.set_cons_succ]
      refine wpT_pureD (v := ?_) (some 55) rfl rfl (by rfl) (fun w' => ?_) ?_
      rotate_left
      · (go_simp; try with_reducible rfl)
      try simp only [Act.put, List.setIfInBounds_toArray, List.set_cons_zero, List.set_cons_succ]
      refine wpT_pureD (v := ?_) (some 56) rfl rfl (by rfl) (fun w' => ?_) ?_
      rotate_left
      · (go_simp; try with_reducible rfl)
      try simp only [Act.put, List.setIfInBounds_toArray, List.set_cons_zero, List.set_cons_succ]
      refine wpT_readD (v := ?_) (some 57) rfl rfl (by rfl) (fun w' hw => ?_) ?_
      rotate_left
      · (obtain ⟨q0, q1, q2⟩ := hw; go_simp; try with_reducible rfl)
      try simp only [Act.put, List.setIfInBounds_toArray, List.set_cons_zero, List.set_cons_succ]
      refine wpT_pureD (v := ?_) (some 58) rfl rfl (by rfl) (fun w' => ?_) ?_
      rotate_left
      · (go_simp; try with_reducible rfl)
      try simp only [Act.put, List.setIfInBounds_toArray, List.set_cons_zero, List.set_cons_succ]
      refine wpT_pureD (v := ?_) (some 59) rfl rfl (by rfl) (fun w' => ?_) ?_
      rotate_left
      · (go_simp; try with_reducible rfl)
      try simp only [Act.put, List.setIfInBounds_toArray, List.set_cons_zero, List.set_cons_succ]
      refine wpT_pureD (v := ?_) (some 60) rfl rfl (by rfl) (fun w' => ?_) ?_
      rotate_left
      · (go_simp; try with_reducible rfl)
      try simp only [Act.put, List.setIfInBounds_toArray, List.set_cons_zero, List.set_cons_succ]
      refine wpT_pureD (v := ?_) (some 61) rfl rfl (by rfl) (fun w' => ?_) ?_
      rotate_left
      · (go_simp; try with_reducible rfl)
      try simp only [Act.put, List.setIfInBounds_toArray, List.set_cons_zero, List.set_cons_succ]
      refine wpT_pureD (v := ?_) (some 62) rfl rfl (by rfl) (fun w' => ?_) ?_
      rotate_left
      · (go_simp; try with_reducible rfl)
      try simp only [Act.put, List.setIfInBounds_toArray, List.set_cons_zero, List.set_cons_succ]
      refine wpT_pureD (v := ?_) (some 63) rfl rfl (by rfl) (fun w' => ?_) ?_
      rotate_left
      · (go_simp; try with_reducible rfl)
      try simp only [Act.put, List.setIfInBounds_toArray, List.set_cons_zero, List.set_cons_succ]
      refine wpT_eff rfl (by rfl) (fun K hK => ?_)
      go_wp2_with fail
      rw [show wrap64 (y : Int) = (y : Int) from IntWalk.wrap64_in _ ⟨by have := HY.out; omega, by have := HY.out; omega⟩]
      refine (HT.out _).mono ?_
      rintro e wt ⟨rfl, hct⟩
      have hct2 := HCZ.out.trans hct
      have HCT := Lib.hid hct2
      go_wp2_with fail
      refine hK _ _ ⟨(HBB.out _ hct2).1, (HBB.out _ hct2).2, hct2⟩ ?_
      clear hK K hct hct2
      refine wpT_pureD (v := ?_) (some 65) rfl rfl (by rfl) (fun w' => ?_) ?_
      rotate_left
      · (go_simp; try with_reducible rfl)
      try simp only [Act.put, List.setIfInBounds_toArray, List.set_cons_zero, List.set_cons_succ]
      refine wpT_pureD (v := ?_) (some 66) rfl rfl (by rfl) (fun w' => ?_) ?_
      rotate_left
      · (go_simp; try with_reducible rfl)
      try simp only [Act.put, List.setIfInBounds_toArray, List.set_cons_zero, List.set_cons_succ]
      refine wpT_end ?_
      go_wp2_with fail
      refine ⟨⟨k + 1, by have := HK2.out; omega, by go_num, HCR.out.trans HCT.out⟩, by simp only [intOf]; have := HK2.out; omega⟩
    · obtain rfl : k = 5 := by omega
      have HCE : Hid (Chg [] w wr) := Lib.hid (HCV.out.trans hcr)
      clear hcr
      go_wp2_with fail
      refine (cI.out _).mono ?_
      rintro e w0 ⟨rfl, rfl⟩
      go_wp2_with fail
      refine (eI.out _).mono ?_
      rintro e w0 ⟨rfl, rfl⟩
      go_wp2_with fail
      refine (cS.out _).mono ?_
      rintro e w0 ⟨rfl, rfl⟩
      go_wp2_with fail
      refine (eS.out _).mono ?_
      rintro e w0 ⟨rfl, rfl⟩
      go_wp2_with fail
      refine (cB.out _).mono ?_
      rintro e w0 ⟨rfl, rfl⟩
      go_wp2_with fail
      refine (eB.out _).mono ?_
      rintro e w0 ⟨rfl, rfl⟩
      go_wp2_with fail
      refine (cU.out _).mono ?_
      rintro e w0 ⟨rfl, rfl⟩
      go_wp2_with fail
      refine (eU.out _).mono ?_
      rintro e w0 ⟨rfl, rfl⟩
      go_wp2_with fail
      refine (cJ.out _).mono ?_
      rintro e w0 ⟨rfl, rfl⟩
      go_wp2_with fail
      refine (eJ.out _).mono ?_
      rintro e w0 ⟨rfl, rfl⟩
      go_wp2_with fail
      go_ret
      exact ⟨rfl, HCE.out⟩
end Go.Proofs.L
