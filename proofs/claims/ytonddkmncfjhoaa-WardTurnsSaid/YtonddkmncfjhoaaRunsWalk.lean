/- Proved here: lemmas and contracts (RunsWalk) for the laws of this seat, for all values of the stated types; no further condition. -/
import Derived.Test.YtonddkmncfjhoaaCalls
open Go Go.RowKit Go.Lib
namespace Go.Proofs.L
theorem a35 : aggT Try.prog 35 6 := aggT_of (by kernel_rfl)
set_option maxRecDepth 100000 in
set_option maxHeartbeats 1600000 in
theorem runs_long (pe : Option Addr) (n ce : Nat) (p : Option Addr) (m c : Nat) (hl : 200 < m ∨ 20 < n) (w : World) : Calls Try.prog 3 #[.slice pe n ce, .slice p m c] w fun e w' => e = .returned (.bool true) ∧ Below w.heap.size w w' := by
  by_cases h1 : 200 < m
  · have dl : decide ((m : Int) > 200) = true := by simp; omega
    have dl2 : decide (200 < (m : Int)) = true := by simp; omega
    clear hl h1
    go_enter Try.func3, Try.ntmps3
    go_wp2_with fail
    refine (fit_ok w).mono ?_
    rintro e w0 ⟨rfl, hB0⟩
    go_wp2
    go_ret
    exact ⟨rfl, hB0⟩
  · have dl : decide ((m : Int) > 200) = false := by simp; omega
    have dl2 : decide (200 < (m : Int)) = false := by simp; omega
    have dn : decide ((n : Int) > 20) = true := by simp; omega
    have dn2 : decide (20 < (n : Int)) = true := by simp; omega
    clear hl h1
    go_enter Try.func3, Try.ntmps3
    go_wp2_with fail
    refine (fit_ok w).mono ?_
    rintro e w0 ⟨rfl, hB0⟩
    go_wp2
    go_ret
    exact ⟨rfl, hB0⟩
set_option maxRecDepth 100000 in
set_option maxHeartbeats 1600000 in
theorem runs_bad (pe : Option Addr) (n ce : Nat) (p : Option Addr) (m c : Nat) (hm : m ≤ 200) (hn : n ≤ 20) (hb : n < 1 ∨ 4 < n) (w : World) : Calls Try.prog 3 #[.slice pe n ce, .slice p m c] w fun e w' => e = .returned (.bool true) ∧ Below w.heap.size w w' := by
  have dl : decide ((m : Int) > 200) = false := by simp; omega
  have dl2 : decide (200 < (m : Int)) = false := by simp; omega
  have dn : decide ((n : Int) > 20) = false := by simp; omega
  have dn2 : decide (20 < (n : Int)) = false := by simp; omega
  have HNB := Lib.hid (fun w => new_bad pe n ce hb w)
  by_cases h1 : n < 1
  · have d1 : decide ((n : Int) < 1) = true := by simp; omega
    clear hb h1 hm hn
    go_enter Try.func3, Try.ntmps3
    go_wp2_with fail
    refine (fit_ok w).mono ?_
    rintro e w0 ⟨rfl, hB0⟩
    go_wp2_with fail
    refine (HNB.out w0).mono ?_
    rintro e w1 ⟨rfl, rfl⟩
    go_wp2
    go_ret
    exact ⟨rfl, hB0⟩
  · have d1 : decide ((n : Int) < 1) = false := by simp; omega
    have d2 : decide ((n : Int) > 4) = true := by simp; omega
    have d3 : decide (4 < (n : Int)) = true := by simp; omega
    clear hb h1 hm hn
    go_enter Try.func3, Try.ntmps3
    go_wp2_with fail
    refine (fit_ok w).mono ?_
    rintro e w0 ⟨rfl, hB0⟩
    go_wp2_with fail
    refine (HNB.out w0).mono ?_
    rintro e w1 ⟨rfl, rfl⟩
    go_wp2
    go_ret
    exact ⟨rfl, hB0⟩
/-- both made anew -/
theorem sim_new {W w0 : World} (pe : Option Addr) (eb eo n ce : Nat) (E : Nat → Nat) (h1 : 1 ≤ n) (h4 : n ≤ 4) (hp : pe = some ⟨eb, eo, none⟩) (hcell : ∀ k, k < n → W.cell? ⟨eb, eo + k, none⟩ = some (.int .u32 (E k : Int))) (hB : Below W.heap.size W w0) :
    Calls Try.prog 7 #[.slice pe n ce] w0 fun e w1 => ∃ bp, e = .returned (.tuple #[.pointer (some ⟨bp, 0, none⟩), .int .i64 0]) ∧ Chg [] w0 w1 ∧
      Calls Try.prog 8 #[.slice pe n ce] w1 fun e w2 => ∃ br, e = .returned (.pointer (some ⟨br, 0, none⟩)) ∧ SimE W.heap.size w2 bp br n ∧ Below W.heap.size W w2 := by
  have hlt : eb < W.heap.size := by have := World.block_lt_of_cell? W _ (hcell 0 (by omega)); simpa using this
  have hc0 : ∀ k, k < n → w0.cell? ⟨eb, eo + k, none⟩ = some (.int .u32 (E k : Int)) := fun k hk => by rw [World.cell?_of_block (hB.block eb hlt)]; exact hcell k hk
  have hs0 := hB.size
  refine (new_in pe eb eo n ce E w0 h1 h4 hp hc0).mono ?_
  rintro e w1 ⟨rfl, g, o, c, hp1, hg, hc1⟩
  refine ⟨_, rfl, hc1, ?_⟩
  have hs1 := hc1.size
  subst hp
  refine (rnew_in eb eo n ce E w1 h4 (by omega) (fun k hk => by rw [World.cell?_of_block (hc1.block eb (by omega) (by simp))]; exact hc0 k hk)).mono ?_
  rintro e w2 ⟨rfl, hI⟩
  obtain ⟨vr, vg, hr, ho1, ho2⟩ := hI.ex
  have hlp := hp1.lt
  have hlg := hp1.ltg
  refine ⟨_, rfl, ⟨_, _, g, o, c, _, _, vr, vg, hp1.keep hI.chg (by simp) (by simp), hr, Rel.new (by omega) E, by omega, by omega, by omega, fun x hx => by have := ho1 x hx; omega, fun x hx => by have := ho2 x hx; omega, by omega, by omega, fun x hx => by have := ho1 x hx; omega, fun x hx => by have := ho2 x hx; omega⟩, ?_⟩
  exact chg_below' (chg_below' hB hc1 (by simp) hs0) hI.chg (by simp) (by omega)
theorem CallAt.list {W b o kd x0 x1 pc p tb td len c L T} (h : CallAt W b o kd x0 x1 pc p tb td len c L T) : ∀ (j : Nat) (u : Value), [Value.int .i64 kd, .int .u32 (x0 : Int), .int .u32 (x1 : Int), .int .u32 (pc : Int), .slice p len c, .int .i64 T][j]? = some u → W.cell? ⟨b, o + j, none⟩ = some u := by
  intro j u hu
  rcases j with _ | _ | _ | _ | _ | _ | j
  · simp at hu; rw [← hu]; exact h.c0
  · simp at hu; rw [← hu]; exact h.c1
  · simp at hu; rw [← hu]; exact h.c2
  · simp at hu; rw [← hu]; exact h.c3
  · simp at hu; rw [← hu]; exact h.c4
  · simp at hu; rw [← hu]; exact h.c5
  · simp at hu
set_option maxRecDepth 100000 in
set_option maxHeartbeats 6400000 in
theorem runs_walk (pe : Option Addr) (eb eo n ce : Nat) (E : Nat → Nat) (p : Option Addr) (b o m c : Nat) (hm : m ≤ 200) (h1 : 1 ≤ n) (h4 : n ≤ 4) (w : World) (hpe : pe = some ⟨eb, eo, none⟩) (hcell : ∀ k, k < n → w.cell? ⟨eb, eo + k, none⟩ = some (.int .u32 (E k : Int)))
    (hp : 0 < m → p = some ⟨b, o, none⟩) (hcalls : CallsAt w b o m) : Calls Try.prog 3 #[.slice pe n ce, .slice p m c] w fun e w' => e = .returned (.bool true) ∧ Below w.heap.size w w' := by
  have dl : decide ((m : Int) > 200) = false := by simp; omega
  have dl2 : decide (200 < (m : Int)) = false := by simp; omega
  have dn : decide ((n : Int) > 20) = false := by simp; omega
  have dn2 : decide (20 < (n : Int)) = false := by simp; omega
  have d1 : decide ((n : Int) < 1) = false := by simp; omega
  have d2 : decide ((n : Int) > 4) = false := by simp; omega
  have d3 : decide (4 < (n : Int)) = false := by simp; omega
  have HC := Lib.hid hcalls
  have HP := Lib.hid hp
  have H1 := Lib.hid h1
  have H4 := Lib.hid h4
  have HNEW := Lib.hid (fun w0 hB => sim_new (W := w) (w0 := w0) pe eb eo n ce E h1 h4 hpe hcell hB)
  have HM := Lib.hid hm
  clear hcalls hp h1 h4 hcell hpe hm
  go_enter Try.func3, Try.ntmps3
  go_wp2_with fail
  refine (fit_ok w).mono ?_
  rintro e w0 ⟨rfl, hB0⟩
  have HN0 := Lib.hid (HNEW.out w0 hB0)
  clear hB0
  go_wp2_with fail
  refine HN0.out.mono ?_
  rintro e w1 ⟨bp, rfl, hc1, hk2⟩
  have HK2 := Lib.hid hk2
  clear hc1 hk2 HN0 HNEW
  go_wp2_with fail
  refine HK2.out.mono ?_
  rintro e w2 ⟨br, rfl, hS, hB⟩
  have HS := Lib.hid hS
  have HB := Lib.hid hB
  clear hS hB HK2 dl dl2 dn dn2 d1 d2 d3
  go_wp2_with fail
  go_loopw [44, 9, 10] (fun i _ _ wr => ∃ k : Nat, k ≤ m ∧ i = .int .i64 k ∧ SimE w.heap.size wr bp br n ∧ Below w.heap.size w wr) (fun i _ _ _ => m - (intOf i).toNat)
  case atStart => exact ⟨0, by omega, rfl, HS.out, HB.out⟩
  case round =>
    obtain ⟨k, hk, rfl, hS, hB⟩ := hrel
    have HSk := Lib.hid hS
    have HBk := Lib.hid hB
    clear hS hB
    by_cases hk2 : k < m
    · have dk : decide ((k : Int) < (m : Int)) = true := by simp; omega
      have hkI : (k : Int) < (m : Int) := by omega
      obtain rfl := HP.out (by omega)
      obtain ⟨kd, x0, x1, pc, q, tb, td, len, cc, L, T, hca0⟩ := HC.out k hk2
      have hca := hca0.below HBk.out
      have HCA := Lib.hid hca
      have HLS := Lib.hid hca.list
      obtain ⟨C, hC⟩ : ∃ C, C = wr.heap.size := ⟨_, rfl⟩
      obtain ⟨Z, hZ⟩ : ∃ Z, Z = wr.alloc (.cells #[.int .i64 kd, .int .u32 (x0 : Int), .int .u32 (x1 : Int), .int .u32 (pc : Int), .slice q len cc, .int .i64 T] 35) := ⟨_, rfl⟩
      have rC : Z.row? C = some #[.int .i64 kd, .int .u32 (x0 : Int), .int .u32 (x1 : Int), .int .u32 (pc : Int), .slice q len cc, .int .i64 T] := by rw [hZ]; exact row_alloc_at _ _ _ _ hC
      have c4 : Z.cell? ⟨C, 4, none⟩ = some (.slice q len cc) := by rw [row_cell rC]; rfl
      have hcZ : Chg [] wr Z := by rw [hZ]; exact (Chg.refl _ _).alloc _
      have HSB : Hid (0 < len → tb < w.heap.size) := Lib.hid fun h0 => hca0.l.lt h0
      have HNW : Hid (w.heap.size ≤ wr.heap.size) := Lib.hid HBk.out.size
      have HRC := Lib.hid rC
      have HCZ := Lib.hid hcZ
      have HCC := Lib.hid hC
      have HZZ := Lib.hid hZ
      clear hca hca0 rC hcZ hC hZ
      go_upto_region 12 with (first | refine wpList_load_part a35 [.int .i64 kd, .int .u32 (x0 : Int), .int .u32 (x1 : Int), .int .u32 (pc : Int), .slice q len cc, .int .i64 T] rfl _ rfl rfl rfl HLS.out ?_ | refine wpList_store_new a35 _ _ rfl rfl rfl rfl rfl rfl rfl rfl ?_)
      rw [← HCC.out, ← HZZ.out]
      by_cases hlen : 20 < len
      · have dl : decide ((len : Int) > 20) = true := by simp; omega
        have dl2 : decide (20 < (len : Int)) = true := by simp; omega
        have HBZ : Hid (Below w.heap.size w Z) := Lib.hid (chg_below' HBk.out HCZ.out (by simp) HNW.out)
        clear hlen
        go_wp2
        go_ret
        exact ⟨rfl, HBZ.out⟩
      · have dl : decide ((len : Int) > 20) = false := by simp; omega
        have dl2 : decide (20 < (len : Int)) = false := by simp; omega
        obtain ⟨f, t, g, ob, cap, rl, gl, vr, vg, hsim⟩ := HSk.out
        have hsz := hsim.keep HCZ.out (by simp)
        have hpl := play_in hsz (by have := H4.out; omega) H1.out (Nat.le_trans HNW.out HCZ.out.size) kd x0 x1 pc HCA.out.x q tb td len cc L T HCA.out.t HCA.out.p (HCA.out.l.keep HCZ.out (by simp)) HSB.out
        have HPL := Lib.hid hpl
        have HLZ : Hid (∀ (j : Nat) (u : Value), [Value.int .i64 kd, .int .u32 (x0 : Int), .int .u32 (x1 : Int), .int .u32 (pc : Int), .slice q len cc, .int .i64 T][j]? = some u → Z.cell? ⟨C, 0 + j, none⟩ = some u) := Lib.hid fun j u hu => by
          rw [Nat.zero_add, row_cell HRC.out]; simpa using hu
        clear hsim hsz hpl hlen
        go_wp2_with (first | refine wpList_load_part a35 [.int .i64 kd, .int .u32 (x0 : Int), .int .u32 (x1 : Int), .int .u32 (pc : Int), .slice q len cc, .int .i64 T] rfl _ rfl rfl rfl HLZ.out ?_ | fail)
        refine HPL.out.mono ?_
        rintro e w3 ⟨rfl, hS3, hB3⟩
        obtain ⟨f, t, g, ob, cap, rl, gl, vr, vg, h3⟩ := hS3
        obtain ⟨htt, hT1, hT2⟩ := sim_turn h3 (by have := H4.out; omega)
        have HB3 : Hid (Below w.heap.size w w3) := Lib.hid ((chg_below' HBk.out HCZ.out (by simp) HNW.out).trans hB3)
        have HC3 := Lib.hid (count_in h3.p)
        have HT1 := Lib.hid hT1
        have HT2 := Lib.hid hT2
        have HS3 := Lib.hid h3
        have tt : (t != t) = false := by simp
        have nn : ((n : Int) != (n : Int)) = false := by simp
        clear c4 h3 hT1 hT2 hB3 htt HPL HLZ HRC HZZ HLS HCC
        go_wp2_with fail
        refine HT1.out.mono ?_
        rintro e w' ⟨rfl, rfl⟩
        go_wp2_with fail
        refine HT2.out.mono ?_
        rintro e w' ⟨rfl, rfl⟩
        go_wp2_with fail
        refine HC3.out.mono ?_
        rintro e w' ⟨rfl, rfl⟩
        clear HT1 HT2 HC3
        go_wp2_with fail
        go_loopw [10] (fun i wr => ∃ z : Int, -1 ≤ z ∧ z ≤ (n : Int) + 1 ∧ i = .int .i64 z ∧ Sim w.heap.size wr bp br n f t g ob cap rl gl vr vg ∧ Below w.heap.size w wr) (fun i _ => ((n : Int) + 1 - (match i with | .int _ z => z | _ => 0)).toNat)
        case atStart => exact ⟨-1, by omega, by omega, rfl, HS3.out, HB3.out⟩
        case round =>
          obtain ⟨z, hz1, hz2, rfl, h3, hB3⟩ := hrel
          have HS3 := Lib.hid h3
          have HB3 := Lib.hid hB3
          have HZ := Lib.hid (show -1 ≤ z ∧ z ≤ (n : Int) + 1 from ⟨hz1, hz2⟩)
          clear hB3
          by_cases hzn : z ≤ (n : Int)
          · have dz : decide (z ≤ (n : Int)) = true := by simpa using hzn
            obtain ⟨S, hs1, hs2⟩ := sim_status h3 H1.out H4.out z
            have HS1 := Lib.hid hs1
            have HS2 := Lib.hid hs2
            have heq : ∀ W, (Op.equalIn 10000 40 (.agg (stL S).toArray) (.agg (stL S).toArray)).run Try.prog W = .ok true W := fun W => eqS _ W
            obtain ⟨A, hA⟩ : ∃ A, A = (stL S).toArray := ⟨_, rfl⟩
            rw [← hA] at HS1 HS2 heq
            clear hA hs1 hs2 h3
            have hw1 : wrap64 (z + 1) = z + 1 := IntWalk.wrap64_in _ ⟨by have := HZ.out; have := H4.out; omega, by have := HZ.out; have := H4.out; omega⟩
            have HW1 := Lib.hid hw1
            clear hz1 hz2 hzn dk hkI tt nn dl dl2 hk hk2
            go_wp2_with fail
            refine HS1.out.mono ?_
            rintro e w4 ⟨rfl, hc4⟩
            have HC4 := Lib.hid hc4
            have HS4 := Lib.hid (HS2.out w4 hc4)
            clear hc4
            go_wp2_with fail
            refine HS4.out.mono ?_
            rintro e w5 ⟨rfl, hc5⟩
            have HC5 := Lib.hid (HC4.out.trans hc5)
            clear hc5
            go_wp2_with fail
            rw [HW1.out]
            go_roundw
            case rel => exact ⟨z + 1, by have := HZ.out; omega, by have := HZ.out; have : z ≤ (n : Int) := by simpa using dz
                                                                   omega, rfl, HS3.out.keep HC5.out (by simp), chg_below' HB3.out HC5.out (by simp) HB3.out.size⟩
            case measure => have : z ≤ (n : Int) := by simpa using dz
                            simp only []; omega
          · have hz : z = (n : Int) + 1 := by omega
            have dz : decide (z ≤ (n : Int)) = false := by simpa using hzn
            have k1 : k + 1 ≤ m := hk2
            have hwk : wrap64 ((k : Int) + 1) = ((k + 1 : Nat) : Int) := by rw [IntWalk.wrap64_in _ ⟨by omega, by have := HM.out; omega⟩]; simp
            have HWK := Lib.hid hwk
            clear hwk
            clear hz1 hz2 hzn hz
            go_wp2_with fail
            go_roundw
            case rel => exact ⟨k + 1, k1, by rw [HWK.out], ⟨_, _, _, _, _, _, _, _, _, HS3.out⟩, HB3.out⟩
            case measure => rw [HWK.out]; simp only [intOf, Int.toNat_natCast]; omega
    · obtain rfl : k = m := by omega
      have dk : decide ((k : Int) < (k : Int)) = false := by simp
      go_wp2
      go_ret
      exact ⟨rfl, HBk.out⟩
end Go.Proofs.L
