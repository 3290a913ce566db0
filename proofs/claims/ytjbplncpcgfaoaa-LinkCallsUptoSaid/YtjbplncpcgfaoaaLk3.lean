/- Proved here: lemmas and contracts (Lk3) for the laws of this seat, for all values of the stated types; no further condition. -/
import Derived.Test.YtjbplncpcgfaoaaLk2
open Go Go.RowKit Go.Lib
namespace Go.Proofs.L
attribute [local irreducible] wpT
/-! plan: where each object's sections begin, and how long each is in all -/
def sumO (L : List Ob) (k : Int) (i : Nat) : Nat := ((L.take i).map (sizeO · k)).sum
theorem sumO_zero (L : List Ob) (k : Int) : sumO L k 0 = 0 := by unfold sumO; simp
theorem sumO_succ {L : List Ob} {k : Int} {i : Nat} {s : Ob} (h : L[i]? = some s) : sumO L k (i + 1) = sumO L k i + sizeO s k := by
  unfold sumO
  rw [List.take_add_one, h]
  simp
theorem sumO_le {L : List Ob} (k : Int) (h : ∀ s ∈ L, s.nc ≤ 16384 ∧ s.nd ≤ 16384 ∧ s.z ≤ 16384) : ∀ i, sumO L k i ≤ 16384 * i
  | 0 => by rw [sumO_zero]; omega
  | i + 1 => by
    have h1 := sumO_le k h i
    cases hq : L[i]? with
    | none =>
      have e : sumO L k (i + 1) = sumO L k i := by unfold sumO; rw [List.take_add_one, hq]; simp
      omega
    | some s =>
      rw [sumO_succ hq]
      have h2 : sizeO s k ≤ 16384 := by
        obtain ⟨a, b, c⟩ := h s (List.mem_of_getElem? hq)
        unfold sizeO
        split; exact a; split; exact b; split; exact c; omega
      omega
def rowF (n : Nat) (g : Nat → Nat → Nat) : Array Value := ((List.range (n * 3)).map fun q => Value.int .u32 ((g (q / 3) (q % 3) : Nat) : Int)).toArray
def tRow (f : Nat → Nat) : Array Value := #[.int .u32 (f 0 : Int), .int .u32 (f 1 : Int), .int .u32 (f 2 : Int)]
def gS (L : List Ob) (k i : Nat) : Nat → Nat → Nat := fun q s => if s < k ∨ (s = k ∧ q < i) then sumO L (s : Int) q else 0
def tS (L : List Ob) (n k i : Nat) : Nat → Nat := fun s => if s < k then sumO L (s : Int) n else if s = k then sumO L (k : Int) i else 0
theorem rowF_get {n : Nat} {g : Nat → Nat → Nat} {q : Nat} (h : q < n * 3) : (rowF n g)[q]? = some (.int .u32 ((g (q / 3) (q % 3) : Nat) : Int)) := by
  unfold rowF; simp [h]
theorem rowF_set {L : List Ob} {n k i : Nat} (hi : i < n) (hk : k < 3) : (rowF n (gS L k i)).setIfInBounds (i * 3 + k) (.int .u32 (sumO L (k : Int) i : Int)) = rowF n (gS L k (i + 1)) := by
  apply Array.ext_getElem?
  intro j
  rw [Array.getElem?_setIfInBounds]
  by_cases e : i * 3 + k = j
  · subst e
    rw [if_pos rfl, if_pos (by unfold rowF; simp; omega), rowF_get (by omega), show (i * 3 + k) / 3 = i by omega, show (i * 3 + k) % 3 = k by omega]
    unfold gS
    rw [if_pos (.inr ⟨rfl, by omega⟩)]
  · rw [if_neg e]
    by_cases h : j < n * 3
    · rw [rowF_get h, rowF_get h]
      unfold gS
      by_cases c : j % 3 < k ∨ (j % 3 = k ∧ j / 3 < i)
      · rw [if_pos c, if_pos (by omega)]
      · rw [if_neg c, if_neg (by omega)]
    · unfold rowF
      rw [List.getElem?_toArray, List.getElem?_toArray, List.getElem?_eq_none (by simp; omega), List.getElem?_eq_none (by simp; omega)]
theorem rowF_next {L : List Ob} {n k : Nat} : rowF n (gS L k n) = rowF n (gS L (k + 1) 0) := by
  apply Array.ext_getElem?
  intro j
  by_cases h : j < n * 3
  · rw [rowF_get h, rowF_get h]
    unfold gS
    by_cases c : j % 3 < k ∨ (j % 3 = k ∧ j / 3 < n)
    · rw [if_pos c, if_pos (by omega)]
    · rw [if_neg c, if_neg (by omega)]
  · unfold rowF
    rw [List.getElem?_toArray, List.getElem?_toArray, List.getElem?_eq_none (by simp; omega), List.getElem?_eq_none (by simp; omega)]
theorem rowF_first {L : List Ob} {n : Nat} : (List.replicate (n * 3) (Value.int .u32 0)).toArray = rowF n (gS L 0 0) := by
  unfold rowF
  congr 1
  apply List.ext_getElem (by simp)
  intro j h1 h2
  simp [gS]
theorem rowF_last {L : List Ob} {n : Nat} : rowF n (gS L 3 0) = rowF n (fun q s => sumO L (s : Int) q) := by
  apply Array.ext_getElem?
  intro j
  by_cases h : j < n * 3
  · rw [rowF_get h, rowF_get h]
    unfold gS
    rw [if_pos (by omega)]
  · unfold rowF
    rw [List.getElem?_toArray, List.getElem?_toArray, List.getElem?_eq_none (by simp; omega), List.getElem?_eq_none (by simp; omega)]
theorem tRow_get {f : Nat → Nat} {k : Nat} (h : k < 3) : (tRow f)[k]? = some (.int .u32 (f k : Int)) := by
  rcases k with _ | _ | _ | k
  · rfl
  · rfl
  · rfl
  · omega
theorem tRow_set {L : List Ob} {n k i : Nat} (hk : k < 3) : (tRow (tS L n k i)).setIfInBounds k (.int .u32 (sumO L (k : Int) (i + 1) : Int)) = tRow (tS L n k (i + 1)) := by
  rcases k with _ | _ | _ | k
  · simp [tRow, tS]
  · simp [tRow, tS]
  · simp [tRow, tS]
  · omega
theorem tRow_next {L : List Ob} {n k : Nat} : tRow (tS L n k n) = tRow (tS L n (k + 1) 0) := by
  have h : ∀ s, tS L n k n s = tS L n (k + 1) 0 s := fun s => by
    unfold tS
    by_cases h1 : s < k
    · rw [if_pos h1, if_pos (by omega)]
    · rw [if_neg h1]
      by_cases h2 : s = k
      · subst h2; rw [if_pos rfl, if_pos (by omega)]
      · rw [if_neg h2, if_neg (by omega)]
        split
        · rw [sumO_zero]
        · rfl
  unfold tRow
  rw [h 0, h 1, h 2]
theorem tRow_first {L : List Ob} {n : Nat} : #[Value.int .u32 0, Value.int .u32 0, Value.int .u32 0] = tRow (tS L n 0 0) := by
  simp [tRow, tS, sumO_zero]
theorem tRow_last {L : List Ob} {n : Nat} : tRow (tS L n 3 0) = tRow (fun s => sumO L (s : Int) n) := by
  simp [tRow, tS]
theorem chg_in {w V w3 : World} {mb : Nat} (h1 : Chg [] w V) (h2 : Chg [mb] V w3) (hm : w.heap.size ≤ mb) : Chg [] w w3 :=
  ⟨h2.os.trans h1.os, h2.tape.trans h1.tape, h2.output.trans h1.output, Nat.le_trans h1.size h2.size, fun k hk _ => (h2.block k (Nat.lt_of_lt_of_le hk h1.size) (by rw [List.mem_singleton]; omega)).trans (h1.block k hk (by simp))⟩
set_option maxRecDepth 100000 in
theorem hmk70 (n : Nat) (h1 : 1 ≤ n) (h2 : n ≤ 16) (w : World) : (Instr.makeSlice 70 (.int .i64 (n : Int)) (.int .i64 (n : Int))).run Try.prog w = .ok (.slice (some ⟨w.heap.size, 0, none⟩) n n) (w.alloc (.cells (List.replicate (n * 3) (Value.int .u32 0)).toArray 71)) := by
  have h : n = 1 ∨ n = 2 ∨ n = 3 ∨ n = 4 ∨ n = 5 ∨ n = 6 ∨ n = 7 ∨ n = 8 ∨ n = 9 ∨ n = 10 ∨ n = 11 ∨ n = 12 ∨ n = 13 ∨ n = 14 ∨ n = 15 ∨ n = 16 := by omega
  rcases h with rfl | rfl | rfl | rfl | rfl | rfl | rfl | rfl | rfl | rfl | rfl | rfl | rfl | rfl | rfl | rfl
  · have e : ∀ w : World, (Instr.makeSlice 70 (.int .i64 1) (.int .i64 1)).run Try.prog w = .ok (.slice (some ⟨w.heap.size, 0, none⟩) 1 1) (w.alloc (.cells (List.replicate 3 (Value.int .u32 0)).toArray 71)) := fun _ => by kernel_rfl
    exact e w
  · have e : ∀ w : World, (Instr.makeSlice 70 (.int .i64 2) (.int .i64 2)).run Try.prog w = .ok (.slice (some ⟨w.heap.size, 0, none⟩) 2 2) (w.alloc (.cells (List.replicate 6 (Value.int .u32 0)).toArray 71)) := fun _ => by kernel_rfl
    exact e w
  · have e : ∀ w : World, (Instr.makeSlice 70 (.int .i64 3) (.int .i64 3)).run Try.prog w = .ok (.slice (some ⟨w.heap.size, 0, none⟩) 3 3) (w.alloc (.cells (List.replicate 9 (Value.int .u32 0)).toArray 71)) := fun _ => by kernel_rfl
    exact e w
  · have e : ∀ w : World, (Instr.makeSlice 70 (.int .i64 4) (.int .i64 4)).run Try.prog w = .ok (.slice (some ⟨w.heap.size, 0, none⟩) 4 4) (w.alloc (.cells (List.replicate 12 (Value.int .u32 0)).toArray 71)) := fun _ => by kernel_rfl
    exact e w
  · have e : ∀ w : World, (Instr.makeSlice 70 (.int .i64 5) (.int .i64 5)).run Try.prog w = .ok (.slice (some ⟨w.heap.size, 0, none⟩) 5 5) (w.alloc (.cells (List.replicate 15 (Value.int .u32 0)).toArray 71)) := fun _ => by kernel_rfl
    exact e w
  · have e : ∀ w : World, (Instr.makeSlice 70 (.int .i64 6) (.int .i64 6)).run Try.prog w = .ok (.slice (some ⟨w.heap.size, 0, none⟩) 6 6) (w.alloc (.cells (List.replicate 18 (Value.int .u32 0)).toArray 71)) := fun _ => by kernel_rfl
    exact e w
  · have e : ∀ w : World, (Instr.makeSlice 70 (.int .i64 7) (.int .i64 7)).run Try.prog w = .ok (.slice (some ⟨w.heap.size, 0, none⟩) 7 7) (w.alloc (.cells (List.replicate 21 (Value.int .u32 0)).toArray 71)) := fun _ => by kernel_rfl
    exact e w
  · have e : ∀ w : World, (Instr.makeSlice 70 (.int .i64 8) (.int .i64 8)).run Try.prog w = .ok (.slice (some ⟨w.heap.size, 0, none⟩) 8 8) (w.alloc (.cells (List.replicate 24 (Value.int .u32 0)).toArray 71)) := fun _ => by kernel_rfl
    exact e w
  · have e : ∀ w : World, (Instr.makeSlice 70 (.int .i64 9) (.int .i64 9)).run Try.prog w = .ok (.slice (some ⟨w.heap.size, 0, none⟩) 9 9) (w.alloc (.cells (List.replicate 27 (Value.int .u32 0)).toArray 71)) := fun _ => by kernel_rfl
    exact e w
  · have e : ∀ w : World, (Instr.makeSlice 70 (.int .i64 10) (.int .i64 10)).run Try.prog w = .ok (.slice (some ⟨w.heap.size, 0, none⟩) 10 10) (w.alloc (.cells (List.replicate 30 (Value.int .u32 0)).toArray 71)) := fun _ => by kernel_rfl
    exact e w
  · have e : ∀ w : World, (Instr.makeSlice 70 (.int .i64 11) (.int .i64 11)).run Try.prog w = .ok (.slice (some ⟨w.heap.size, 0, none⟩) 11 11) (w.alloc (.cells (List.replicate 33 (Value.int .u32 0)).toArray 71)) := fun _ => by kernel_rfl
    exact e w
  · have e : ∀ w : World, (Instr.makeSlice 70 (.int .i64 12) (.int .i64 12)).run Try.prog w = .ok (.slice (some ⟨w.heap.size, 0, none⟩) 12 12) (w.alloc (.cells (List.replicate 36 (Value.int .u32 0)).toArray 71)) := fun _ => by kernel_rfl
    exact e w
  · have e : ∀ w : World, (Instr.makeSlice 70 (.int .i64 13) (.int .i64 13)).run Try.prog w = .ok (.slice (some ⟨w.heap.size, 0, none⟩) 13 13) (w.alloc (.cells (List.replicate 39 (Value.int .u32 0)).toArray 71)) := fun _ => by kernel_rfl
    exact e w
  · have e : ∀ w : World, (Instr.makeSlice 70 (.int .i64 14) (.int .i64 14)).run Try.prog w = .ok (.slice (some ⟨w.heap.size, 0, none⟩) 14 14) (w.alloc (.cells (List.replicate 42 (Value.int .u32 0)).toArray 71)) := fun _ => by kernel_rfl
    exact e w
  · have e : ∀ w : World, (Instr.makeSlice 70 (.int .i64 15) (.int .i64 15)).run Try.prog w = .ok (.slice (some ⟨w.heap.size, 0, none⟩) 15 15) (w.alloc (.cells (List.replicate 45 (Value.int .u32 0)).toArray 71)) := fun _ => by kernel_rfl
    exact e w
  · have e : ∀ w : World, (Instr.makeSlice 70 (.int .i64 16) (.int .i64 16)).run Try.prog w = .ok (.slice (some ⟨w.heap.size, 0, none⟩) 16 16) (w.alloc (.cells (List.replicate 48 (Value.int .u32 0)).toArray 71)) := fun _ => by kernel_rfl
    exact e w
theorem hmk70' (L : List Ob) (n : Nat) (h1 : 1 ≤ n) (h2 : n ≤ 16) (w : World) : (Instr.makeSlice 70 (.int .i64 (n : Int)) (.int .i64 (n : Int))).run Try.prog w = .ok (.slice (some ⟨w.heap.size, 0, none⟩) n n) (w.alloc (.cells (rowF n (gS L 0 0)) 71)) := by
  rw [← rowF_first]; exact hmk70 n h1 h2 w
theorem a71 : aggT Try.prog 71 3 := aggT_of (by kernel_rfl)
theorem ret_tc {P : Program} {fn : Func} {T n : Nat} {p u : Tmp} (hres : fn.results = #[.tmp u, .cell p T]) (hT : aggT P T n) {tmps : Array Value} {w : World} {b : Nat} {cs : Array Value} {v : Value}
    (hu : tmps.getD u undef = v) (hp : tmps.getD p undef = .pointer (some ⟨b, 0, none⟩)) (hr : w.row? b = some cs) (hs : cs.size = n) : (results fn tmps).run P w = .ok (.tuple #[v, .agg cs]) w := by
  have hp' : tmps[p]?.getD undef = .pointer (some ⟨b, 0, none⟩) := by simpa using hp
  have hu' : tmps[u]?.getD undef = v := by simpa using hu
  simp [results, hres, hp', hu', asAddr, loadVar_row hT, hr, loadR_some _ _ _ _ _ _ hs]
theorem u32add {a b : Nat} (h : a + b < 4294967296) : IntKind.u32.wrap ((a : Int) + (b : Int)) = ((a + b : Nat) : Int) := by
  rw [u32id (by omega) (by omega)]; omega
set_option maxRecDepth 100000 in
set_option maxHeartbeats 4000000 in
theorem plan_any {W : World} {p : Option Addr} {b o n c : Nat} {L : List Ob} (hS : ObsAt W b o L) (hn : L.length = n) (h1 : 1 ≤ n) (h16 : n ≤ 16) (hp : p = some ⟨b, o, none⟩) (hz : ∀ s ∈ L, s.nc ≤ 16384 ∧ s.nd ≤ 16384 ∧ s.z ≤ 16384) :
    Calls Try.prog 18 #[.slice p n c] W fun e w' => ∃ A, e = .returned (.tuple #[.slice (some ⟨A, 0, none⟩) n n, .agg (tRow fun s => sumO L (s : Int) n)]) ∧ w'.row? A = some (rowF n fun q s => sumO L (s : Int) q) ∧ W.heap.size ≤ A ∧ Chg [] W w' := by
  have HS : Hid (∀ V, Chg [] W V → ObsAt V b o L) := Lib.hid fun V hV => hS.keep hV
  have HN := Lib.hid hn
  have H16 := Lib.hid h16
  have HSZ := Lib.hid hz
  have HSM : Hid (∀ (k : Int) i, i ≤ 16 → sumO L k i ≤ 262144) := Lib.hid fun k i hi => Nat.le_trans (sumO_le k hz i) (by omega)
  have hmk := hmk70' L n h1 h16
  subst hp
  clear hS hn h1 h16 hz
  go_enter Try.func18, Try.ntmps18
  go_upto_block 0 with (fail)
  obtain ⟨T3, hT3⟩ : ∃ H, H = W.heap.size := ⟨_, rfl⟩
  obtain ⟨V, hV⟩ : ∃ V, V = ((W.alloc (.cells #[.int .u32 0, .int .u32 0, .int .u32 0] 71)).alloc (.cells #[.int .u32 0, .int .u32 0, .int .u32 0] 71)).alloc (.cells (rowF n (gS L 0 0)) 71) := ⟨_, rfl⟩
  rw [← hV, ← hT3]
  have hr3 : V.row? T3 = some #[.int .u32 0, .int .u32 0, .int .u32 0] := by
    rw [hV, row_alloc_past _ _ _ (by simp; omega), row_alloc_past _ _ _ (by simp; omega)]; exact row_alloc_at _ _ _ _ hT3
  have hrT : V.row? (T3 + 1) = some (tRow (tS L n 0 0)) := by
    rw [hV, row_alloc_past _ _ _ (by simp; omega), ← tRow_first]; exact row_alloc_at _ _ _ _ (by simp; omega)
  have hrA : V.row? (T3 + 1 + 1) = some (rowF n (gS L 0 0)) := by
    rw [hV]; exact row_alloc_at _ _ _ _ (by simp; omega)
  have HCV : Hid (Chg [] W V) := Lib.hid (by rw [hV]; exact (((Chg.refl _ _).alloc _).alloc _).alloc _)
  obtain ⟨T, hT⟩ : ∃ T, T = T3 + 1 := ⟨_, rfl⟩
  obtain ⟨A, hA⟩ : ∃ A, A = T3 + 1 + 1 := ⟨_, rfl⟩
  rw [← hT] at hrT
  rw [← hA] at hrA
  rw [← hA, ← hT]
  have HB : Hid (W.heap.size ≤ T3 ∧ W.heap.size ≤ T ∧ W.heap.size ≤ A ∧ T3 ≠ T ∧ T3 ≠ A ∧ T ≠ A) := Lib.hid ⟨by omega, by omega, by omega, by omega, by omega, by omega⟩
  have HR3 := Lib.hid hr3
  have HRT := Lib.hid hrT
  have HRA := Lib.hid hrA
  clear hT3 hV hr3 hrT hrA hT hA hmk
  go_wp2_with fail
  go_loopw [12] (fun i wr => ∃ k : Nat, k ≤ 3 ∧ i = .int .i64 (k : Int) ∧ wr.row? T3 = some #[.int .u32 0, .int .u32 0, .int .u32 0] ∧ wr.row? T = some (tRow (tS L n k 0)) ∧ wr.row? A = some (rowF n (gS L k 0)) ∧ Chg [] W wr) (fun i _ => 3 - (intOf i).toNat)
  case atStart => exact ⟨0, by omega, rfl, HR3.out, HRT.out, HRA.out, HCV.out⟩
  case round =>
    obtain ⟨k, hk, rfl, h3, hT, hA, hch⟩ := hrel
    have HK := Lib.hid hk
    have H3 := Lib.hid h3
    have HT := Lib.hid hT
    have HA := Lib.hid hA
    have HCH := Lib.hid hch
    clear hk h3 hT hA hch
    by_cases hkn : k < 3
    · have HKN := Lib.hid hkn
      have dI : (k : Int) < 3 := by omega
      have HW := Lib.hid (wrapK k (by omega))
      clear hkn
      go_wp2_with fail
      clear dI
      go_loopw [17] (fun i wr => ∃ j : Nat, j ≤ n ∧ i = .int .i64 (j : Int) ∧ wr.row? T3 = some #[.int .u32 0, .int .u32 0, .int .u32 0] ∧ wr.row? T = some (tRow (tS L n k j)) ∧ wr.row? A = some (rowF n (gS L k j)) ∧ Chg [] W wr) (fun i _ => n - (intOf i).toNat)
      case atStart => exact ⟨0, Nat.zero_le _, rfl, H3.out, HT.out, HA.out, HCH.out⟩
      case round =>
        obtain ⟨j, hj, rfl, h3, hT, hA, hch⟩ := hrel
        have HJ := Lib.hid hj
        have HX3 := Lib.hid h3
        have HXT := Lib.hid hT
        have HXA := Lib.hid hA
        have HXC := Lib.hid hch
        clear hj h3 hT hA hch
        by_cases hjn : j < n
        · have HJN := Lib.hid hjn
          have dJ : (j : Int) < (n : Int) := by omega
          have HWJ := Lib.hid (wrapK j (by have := H16.out; omega))
          obtain ⟨s, hs⟩ : ∃ s, L[j]? = some s := ⟨_, List.getElem?_eq_getElem (by rw [HN.out]; exact hjn)⟩
          have HS1 := Lib.hid hs
          have HZZ := Lib.hid (HSZ.out s (List.mem_of_getElem? hs))
          have HSC := Lib.hid (HS.out _ HXC.out j s hs).1
          obtain ⟨Z, hZ⟩ : ∃ Z, Z = wr.alloc (.cells (obA s) 53) := ⟨_, rfl⟩
          obtain ⟨B, hB⟩ : ∃ b, b = wr.heap.size := ⟨_, rfl⟩
          have hc2 : Chg [] wr Z := by rw [hZ]; exact (Chg.refl _ _).alloc _
          have HRB : Hid (Z.row? B = some (obA s)) := Lib.hid (by rw [hZ]; exact row_alloc_at _ _ _ _ hB)
          have HY3 : Hid (Z.row? T3 = some #[.int .u32 0, .int .u32 0, .int .u32 0]) := Lib.hid ((hc2.row (row_lt HX3.out) (by simp)).trans HX3.out)
          have HYT : Hid (Z.row? T = some (tRow (tS L n k j))) := Lib.hid ((hc2.row (row_lt HXT.out) (by simp)).trans HXT.out)
          have HYA : Hid (Z.row? A = some (rowF n (gS L k j))) := Lib.hid ((hc2.row (row_lt HXA.out) (by simp)).trans HXA.out)
          have HYC : Hid (Chg [] W Z) := Lib.hid (HXC.out.trans hc2)
          have HBN : Hid (B ≠ T3 ∧ B ≠ T ∧ B ≠ A) := Lib.hid ⟨by have := row_lt HX3.out; omega, by have := row_lt HXT.out; omega, by have := row_lt HXA.out; omega⟩
          have HZ2 := Lib.hid hZ
          have HB2 := Lib.hid hB
          clear hs hZ hB hc2 hjn
          go_upto_region 9 with (first | (refine wpList_load_part a53 (obA s).toList rfl _ rfl rfl rfl HSC.out ?_) | (refine wpList_store_new a53 _ _ rfl rfl rfl rfl rfl rfl rfl rfl ?_))
          rw [← HZ2.out, ← HB2.out]
          clear HZ2 HB2 dJ
          obtain ⟨x, hx⟩ : ∃ x, x = sumO L (k : Int) j := ⟨_, rfl⟩
          have HXL : Hid (x ≤ 262144) := Lib.hid (by rw [hx]; exact HSM.out _ _ (by have := H16.out; have := HJN.out; omega))
          have c1 : Z.cell? ⟨T, k, none⟩ = some (.int .u32 (x : Int)) := by rw [row_cell HYT.out, tRow_get HKN.out, hx]; unfold tS; rw [if_neg (Nat.lt_irrefl _), if_pos rfl]
          have ca : Z.cell? ⟨A, j * 3 + k, none⟩ = some (.int .u32 ((gS L k j j k : Nat) : Int)) := by
            have h1 := HKN.out
            have h2 := HJN.out
            rw [row_cell HYA.out, rowF_get (by omega), show (j * 3 + k) / 3 = j by omega, show (j * 3 + k) % 3 = k by omega]
          have fa : Z.frozen? ⟨A, j * 3 + k, none⟩ = false := row_free HYA.out _
          have HX := Lib.hid hx
          have dk : (k : Int) < 3 := by have := HKN.out; omega
          have dkn : k < 3 := HKN.out
          have dJ : (j : Int) < (n : Int) := by have := HJN.out; omega
          have djn : j < n := HJN.out
          clear hx
          refine wp_region_C (fun w' => w'.cell? ⟨T, k, none⟩ = some (.int .u32 (x : Int))) [(0, 0), (1, 0), (2, 0), (3, 0), (4, 0), (5, 1), (6, 0), (7, 0), (8, 3)] rfl (by kernel_rfl) ?hSA ?hTA
          case hSA => exact c1
          refine wpT_pureD (v := ?_) (some 22) rfl rfl (by rfl) (fun w' => ?_) ?_
          rotate_left
          · (go_simp; try with_reducible rfl)
          try simp only [Act.put, List.setIfInBounds_toArray, List.set_cons_zero, List.set_cons_succ]
          refine wpT_pureD (v := ?_) (some 23) rfl rfl (by rfl) (fun w' => ?_) ?_
          rotate_left
          · (go_simp; try with_reducible rfl)
          try simp only [Act.put, List.setIfInBounds_toArray, List.set_cons_zero, List.set_cons_succ]
          refine wpT_pureD (v := ?_) (some 24) rfl rfl (by rfl) (fun w' => ?_) ?_
          rotate_left
          · (go_simp; try with_reducible rfl)
          try simp only [Act.put, List.setIfInBounds_toArray, List.set_cons_zero, List.set_cons_succ]
          refine wpT_pureD (v := ?_) (some 25) rfl rfl (by rfl) (fun w' => ?_) ?_
          rotate_left
          · (go_simp; try with_reducible rfl)
          try simp only [Act.put, List.setIfInBounds_toArray, List.set_cons_zero, List.set_cons_succ]
          refine wpT_pureD (v := ?_) (some 26) rfl rfl (by rfl) (fun w' => ?_) ?_
          rotate_left
          · (go_simp; try with_reducible rfl)
          try simp only [Act.put, List.setIfInBounds_toArray, List.set_cons_zero, List.set_cons_succ]
          refine wpT_readD (v := ?_) (some 27) rfl rfl (by rfl) (fun w' hw => ?_) ?_
          rotate_left
          · (obtain q0 := hw; go_simp; try with_reducible rfl)
          try simp only [Act.put, List.setIfInBounds_toArray, List.set_cons_zero, List.set_cons_succ]
          refine wpT_pureD (v := ?_) (some 28) rfl rfl (by rfl) (fun w' => ?_) ?_
          rotate_left
          · (go_simp; try with_reducible rfl)
          try simp only [Act.put, List.setIfInBounds_toArray, List.set_cons_zero, List.set_cons_succ]
          refine wpT_pureD (v := ?_) (some 29) rfl rfl (by rfl) (fun w' => ?_) ?_
          rotate_left
          · (go_simp; try with_reducible rfl)
          try simp only [Act.put, List.setIfInBounds_toArray, List.set_cons_zero, List.set_cons_succ]
          refine wpT_brk rfl (by rfl) (fun K hK => ?_)
          go_wp2_with fail
          refine wpT_end ?_
          clear c1 ca fa dJ djn
          obtain ⟨Y, hY⟩ : ∃ Y, Y = (Z.setCell ⟨A, j * 3 + k, none⟩ (.int .u32 (x : Int))).drew := ⟨_, rfl⟩
          rw [← hY]
          have hcY : Chg [A] Z Y := by rw [hY]; exact ((Chg.refl [A] Z).setCell (.inl (by simp)) _).drew
          have HYA2 : Hid (Y.row? A = some (rowF n (gS L k (j + 1)))) := Lib.hid (by rw [hY, row_drew, row_setCell_same, HYA.out, HX.out, ← rowF_set HJN.out HKN.out]; rfl)
          have HYT2 : Hid (Y.row? T = some (tRow (tS L n k j))) := Lib.hid ((hcY.row (row_lt HYT.out) (by have := HB.out; simp; omega)).trans HYT.out)
          have HY32 : Hid (Y.row? T3 = some #[.int .u32 0, .int .u32 0, .int .u32 0]) := Lib.hid ((hcY.row (row_lt HY3.out) (by have := HB.out; simp; omega)).trans HY3.out)
          have HRB2 : Hid (Y.row? B = some (obA s)) := Lib.hid ((hcY.row (row_lt HRB.out) (by have := HBN.out; simp; omega)).trans HRB.out)
          have HYC2 : Hid (Chg [] W Y) := Lib.hid (chg_in HYC.out hcY HB.out.2.2.1)
          have c1 : Hid (Y.cell? ⟨T, k, none⟩ = some (.int .u32 (x : Int))) := Lib.hid (by rw [row_cell HYT2.out, tRow_get HKN.out, HX.out]; unfold tS; rw [if_neg (Nat.lt_irrefl _), if_pos rfl])
          clear hY hcY
          obtain ⟨y, hy⟩ : ∃ y, y = x + sizeO s (k : Int) := ⟨_, rfl⟩
          have HYY : Hid (y = sumO L (k : Int) (j + 1)) := Lib.hid (by rw [hy, HX.out, sumO_succ HS1.out])
          have wy : IntKind.u32.wrap ((x : Int) + (sizeO s (k : Int) : Int)) = (y : Int) := by
            have h1 : sizeO s (k : Int) ≤ 16384 := by
              obtain ⟨a, b, c⟩ := HZZ.out
              unfold sizeO
              split; exact a; split; exact b; split; exact c; omega
            have := HXL.out
            rw [u32add (by omega), hy]
          clear hy
          go_upto_region 10 with (fail)
          refine wp_region_C (fun w' => w'.cell? ⟨T, k, none⟩ = some (.int .u32 (x : Int)) ∧ w'.row? B = some (obA s)) [(0, 0), (1, 0), (2, 1), (3, 1), (4, 0), (5, 2), (6, 0), (7, 0), (8, 3)] rfl (by kernel_rfl) ?hSC ?hTC
          case hSC => exact ⟨c1.out, HRB2.out⟩
          refine wpT_pureD (v := ?_) (some 30) rfl rfl (by rfl) (fun w' => ?_) ?_
          rotate_left
          · (go_simp; try with_reducible rfl)
          try simp only [Act.put, List.setIfInBounds_toArray, List.set_cons_zero, List.set_cons_succ]
          refine wpT_pureD (v := ?_) (some 31) rfl rfl (by rfl) (fun w' => ?_) ?_
          rotate_left
          · (go_simp; try with_reducible rfl)
          try simp only [Act.put, List.setIfInBounds_toArray, List.set_cons_zero, List.set_cons_succ]
          refine wpT_readD (v := ?_) (some 32) rfl rfl (by rfl) (fun w' hw => ?_) ?_
          rotate_left
          · (obtain ⟨q0, q1⟩ := hw; go_simp; try with_reducible rfl)
          try simp only [Act.put, List.setIfInBounds_toArray, List.set_cons_zero, List.set_cons_succ]
          refine wpT_load_part a53 (obA s).toList (some 33) _ rfl rfl rfl (by rfl) rfl rfl (fun w' hw j u hu => by rw [Nat.zero_add, row_cell hw.2, ← Array.getElem?_toList]; exact hu) ?_
          try simp only [Act.put, List.setIfInBounds_toArray, List.set_cons_zero, List.set_cons_succ]
          try simp only [Act.put, List.setIfInBounds_toArray, List.set_cons_zero, List.set_cons_succ]
          refine wpT_pureD (v := ?_) (some 34) rfl rfl (by rfl) (fun w' => ?_) ?_
          rotate_left
          · (go_simp; try with_reducible rfl)
          try simp only [Act.put, List.setIfInBounds_toArray, List.set_cons_zero, List.set_cons_succ]
          refine wpT_eff rfl (by rfl) (fun K hK => ?_)
          go_wp2_with fail
          refine (size_any s (k : Int) (by have := HZZ.out; omega) (by have := HZZ.out; omega) _).mono ?_
          rintro e w5 ⟨rfl, hc5⟩
          have HC5 := Lib.hid hc5
          clear hc5
          go_wp2_with fail
          refine hK _ _ ⟨keepc (show Y.drew.cell? _ = _ from c1.out) HC5.out (by simp), (HC5.out.row (row_lt HRB2.out) (by simp)).trans HRB2.out⟩ ?_
          clear hK K
          try simp only [Act.put, List.setIfInBounds_toArray, List.set_cons_zero, List.set_cons_succ]
          refine wpT_pureD (v := ?_) (some 36) rfl rfl (by rfl) (fun w' => ?_) ?_
          rotate_left
          · (go_simp; try with_reducible rfl)
          try simp only [Act.put, List.setIfInBounds_toArray, List.set_cons_zero, List.set_cons_succ]
          refine wpT_pureD (v := ?_) (some 37) rfl rfl (by rfl) (fun w' => ?_) ?_
          rotate_left
          · (go_simp; try with_reducible rfl)
          try simp only [Act.put, List.setIfInBounds_toArray, List.set_cons_zero, List.set_cons_succ]
          refine wpT_brk rfl (by rfl) (fun K hK => ?_)
          have cT : w5.cell? ⟨T, k, none⟩ = some (.int .u32 (x : Int)) := keepc (show Y.drew.cell? _ = _ from c1.out) HC5.out (by simp)
          have fT : w5.frozen? ⟨T, k, none⟩ = false := row_free ((HC5.out.row (row_lt HYT2.out) (by simp)).trans HYT2.out) _
          go_wp2_with fail
          refine wpT_end ?_
          obtain ⟨X, hX⟩ : ∃ X, X = w5.setCell ⟨T, k, none⟩ (.int .u32 (y : Int)) := ⟨_, rfl⟩
          have hcX : Chg [T] w5 X := by rw [hX]; exact (Chg.refl [T] w5).setCell (.inl (by simp)) _
          have HXA2 : Hid (X.row? A = some (rowF n (gS L k (j + 1)))) := Lib.hid ((hcX.row (row_lt ((HC5.out.row (row_lt HYA2.out) (by simp)).trans HYA2.out)) (by have := HB.out; simp; omega)).trans ((HC5.out.row (row_lt HYA2.out) (by simp)).trans HYA2.out))
          have HX32 : Hid (X.row? T3 = some #[.int .u32 0, .int .u32 0, .int .u32 0]) := Lib.hid ((hcX.row (row_lt ((HC5.out.row (row_lt HY32.out) (by simp)).trans HY32.out)) (by have := HB.out; simp; omega)).trans ((HC5.out.row (row_lt HY32.out) (by simp)).trans HY32.out))
          have HXT2 : Hid (X.row? T = some (tRow (tS L n k (j + 1)))) := Lib.hid (by rw [hX, row_setCell_same, (HC5.out.row (row_lt HYT2.out) (by simp)).trans HYT2.out, HYY.out, ← tRow_set HKN.out]; rfl)
          have HXC2 : Hid (Chg [] W X) := Lib.hid (chg_in (HYC2.out.trans ((Chg.refl [] Y).drew.trans HC5.out)) hcX HB.out.2.1)
          rw [← hX]
          clear hX hcX cT fT dk dkn wy
          go_wp2_with fail
          case roundEnd => exact ⟨⟨j + 1, HJN.out, by rw [HWJ.out], HX32.out, HXT2.out, HXA2.out, HXC2.out⟩, by rw [HWJ.out]; simp only [intOf, Int.toNat_natCast]; have := HJN.out; omega⟩
        · obtain rfl : j = n := by have := HJ.out; omega
          have dJ : ¬ (j : Int) < (j : Int) := by omega
          clear hjn
          go_wp2_with fail
          case roundEnd => exact ⟨⟨k + 1, HKN.out, by rw [HW.out], HX3.out, by rw [← tRow_next]; exact HXT.out, by rw [← rowF_next]; exact HXA.out, HXC.out⟩, by rw [HW.out]; simp only [intOf, Int.toNat_natCast]; have := HKN.out; omega⟩
    · obtain rfl : k = 3 := by have := HK.out; omega
      have HT2 : Hid (wr.row? T = some (tRow fun s => sumO L (s : Int) n)) := Lib.hid (by rw [← tRow_last]; exact HT.out)
      have HA2 : Hid (wr.row? A = some (rowF n fun q s => sumO L (s : Int) q)) := Lib.hid (by rw [← rowF_last]; exact HA.out)
      clear hkn
      obtain ⟨f, hf⟩ : ∃ f : Nat → Nat, f = fun s : Nat => sumO L (s : Int) n := ⟨_, rfl⟩
      rw [← hf] at HT2
      obtain ⟨g, hg⟩ : ∃ g : Nat → Nat → Nat, g = fun (q s : Nat) => sumO L (s : Int) q := ⟨_, rfl⟩
      rw [← hg] at HA2
      have HF := Lib.hid hf
      have HG := Lib.hid hg
      clear hf hg HT HA
      go_upto_region 13 with (fail)
      refine wp_region_C (fun w' => w'.row? T = some (tRow f)) [(0, 0), (1, 1), (2, 0), (3, 3)] rfl (by kernel_rfl) ?hSE ?hTE
      case hSE => exact HT2.out
      refine wpT_pureD (v := ?_) (some 40) rfl rfl (by rfl) (fun w' => ?_) ?_
      rotate_left
      · (go_simp; try with_reducible rfl)
      try simp only [Act.put, List.setIfInBounds_toArray, List.set_cons_zero, List.set_cons_succ]
      refine wpT_load_part a71 (tRow f).toList (some 41) _ rfl rfl rfl (by rfl) rfl rfl (fun w' hw j u hu => by rw [Nat.zero_add, row_cell hw, ← Array.getElem?_toList]; exact hu) ?_
      try simp only [Act.put, List.setIfInBounds_toArray, List.set_cons_zero, List.set_cons_succ]
      try simp only [Act.put, List.setIfInBounds_toArray, List.set_cons_zero, List.set_cons_succ]
      refine wpT_pureD (v := ?_) (some 2) rfl rfl (by rfl) (fun w' => ?_) ?_
      rotate_left
      · (go_simp; try with_reducible rfl)
      try simp only [Act.put, List.setIfInBounds_toArray, List.set_cons_zero, List.set_cons_succ]
      refine wpT_brk rfl (by rfl) (fun K hK => ?_)
      go_wp2_with (refine wpList_store_row a71 _ _ rfl rfl rfl rfl rfl H3.out rfl rfl rfl ?_)
      refine wpT_end ?_
      have HR9 : Hid (((wr.setRow T3 (tRow f)).drew).row? T3 = some (tRow f)) := Lib.hid (by rw [row_drew, row_setRow, if_pos rfl, H3.out]; rfl)
      go_wp2
      refine bodyPost_ret (ret_tc rfl a71 rfl rfl HR9.out rfl) rfl ?_
      have hc : Chg [T3] wr (wr.setRow T3 (tRow f)).drew := ((Chg.refl [T3] wr).setRow (.inl (by simp)) _).drew
      refine ⟨A, by rw [HF.out]; rfl, ?_, HB.out.2.2.1, chg_in HCH.out hc HB.out.1⟩
      rw [← HG.out]
      exact (hc.row (row_lt HA2.out) (by have := HB.out; simp; omega)).trans HA2.out
end Go.Proofs.L
