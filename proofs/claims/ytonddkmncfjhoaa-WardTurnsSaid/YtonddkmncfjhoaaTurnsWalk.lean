/- Proved here: lemmas and contracts (TurnsWalk) for the laws of this seat, for all values of the stated types; no further condition. -/
import Derived.Test.YtonddkmncfjhoaaRound
open Go Go.RowKit Go.Lib
namespace Go.Proofs.L
set_option maxRecDepth 100000 in
set_option maxHeartbeats 1600000 in
theorem turns_off (pe : Option Addr) (n ce : Nat) (p : Option Addr) (m c : Nat) (hl : 200 < m ∨ n < 1 ∨ 4 < n) (w : World) : Calls Try.prog 4 #[.slice pe n ce, .slice p m c] w fun e w' => e = .returned (.bool true) ∧ Below w.heap.size w w' := by
  by_cases h1 : 200 < m
  · have dl : decide ((m : Int) > 200) = true := by simp; omega
    have dl2 : decide (200 < (m : Int)) = true := by simp; omega
    clear hl h1
    go_enter Try.func4, Try.ntmps4
    go_wp2_with fail
    refine (fit_ok w).mono ?_
    rintro e w0 ⟨rfl, hB0⟩
    go_wp2
    go_ret
    exact ⟨rfl, hB0⟩
  have dl : decide ((m : Int) > 200) = false := by simp; omega
  have dl2 : decide (200 < (m : Int)) = false := by simp; omega
  by_cases h2 : n < 1
  · have dn : decide ((n : Int) < 1) = true := by simp; omega
    clear hl h1 h2
    go_enter Try.func4, Try.ntmps4
    go_wp2_with fail
    refine (fit_ok w).mono ?_
    rintro e w0 ⟨rfl, hB0⟩
    go_wp2
    go_ret
    exact ⟨rfl, hB0⟩
  · have dn : decide ((n : Int) < 1) = false := by simp; omega
    have d1 : decide ((n : Int) > 4) = true := by simp; omega
    have d2 : decide (4 < (n : Int)) = true := by simp; omega
    clear hl h1 h2
    go_enter Try.func4, Try.ntmps4
    go_wp2_with fail
    refine (fit_ok w).mono ?_
    rintro e w0 ⟨rfl, hB0⟩
    go_wp2
    go_ret
    exact ⟨rfl, hB0⟩
/-- both made anew, the document's first -/
theorem sim_new2 {W w0 : World} (pe : Option Addr) (eb eo n ce : Nat) (E : Nat → Nat) (h1 : 1 ≤ n) (h4 : n ≤ 4) (hp : pe = some ⟨eb, eo, none⟩) (hcell : ∀ k, k < n → W.cell? ⟨eb, eo + k, none⟩ = some (.int .u32 (E k : Int))) (hB : Below W.heap.size W w0) :
    Calls Try.prog 8 #[.slice pe n ce] w0 fun e w1 => ∃ br, e = .returned (.pointer (some ⟨br, 0, none⟩)) ∧ Chg [] w0 w1 ∧
      Calls Try.prog 7 #[.slice pe n ce] w1 fun e w2 => ∃ bp, e = .returned (.tuple #[.pointer (some ⟨bp, 0, none⟩), .int .i64 0]) ∧ SimE W.heap.size w2 bp br n ∧ Below W.heap.size W w2 := by
  have hlt : eb < W.heap.size := by have := World.block_lt_of_cell? W _ (hcell 0 (by omega)); simpa using this
  have hc0 : ∀ k, k < n → w0.cell? ⟨eb, eo + k, none⟩ = some (.int .u32 (E k : Int)) := fun k hk => by rw [World.cell?_of_block (hB.block eb hlt)]; exact hcell k hk
  have hs0 := hB.size
  have hp' := hp
  subst hp
  refine (rnew_in eb eo n ce E w0 h4 (by omega) hc0).mono ?_
  rintro e w1 ⟨rfl, hI⟩
  refine ⟨_, rfl, hI.chg, ?_⟩
  have hs1 := hI.chg.size
  refine (new_in _ eb eo n ce E w1 h1 h4 hp' (fun k hk => by rw [World.cell?_of_block (hI.chg.block eb (by omega) (by simp))]; exact hc0 k hk)).mono ?_
  rintro e w2 ⟨rfl, g, o, c, hp1, hg, hc1⟩
  obtain ⟨vr, vg, hr, ho1, ho2⟩ := hI.ex
  have hlr := hr.lt
  refine ⟨_, rfl, ⟨_, _, g, o, c, _, _, vr, vg, hp1, hr.keep0 hc1, Rel.new (by omega) E, by omega, by omega, by omega, fun x hx => by have := ho1 x hx; omega, fun x hx => by have := ho2 x hx; omega, by omega, by omega, fun x hx => by have := hr.r.lt x hx; omega, fun x hx => by have := hr.g.lt x hx; omega⟩, ?_⟩
  exact chg_below' (chg_below' hB hI.chg (by simp) hs0) hc1 (by simp) (by omega)
/-- what the round's loops keep -/
structure Rnd (N : Nat) (w wr : World) (bp n : Nat) (f : Nat → Sta) (t : Int) (g o cap H : Nat) (rl : List Nat) (k : Nat) : Prop where
  p : Wd wr bp n f t g o cap
  h : wr.row? H = some (hadL rl k).toArray
  hp : H ≠ bp
  hg : H ≠ g
  np : N ≤ bp
  b : Below N w wr
theorem Rnd.keep {N w wr wr' bp n f t g o cap H rl k} (h : Rnd N w wr bp n f t g o cap H rl k) (hN : N ≤ w.heap.size) (hc : Chg [] wr wr') : Rnd N w wr' bp n f t g o cap H rl k :=
  ⟨h.p.keep hc (by simp) (by simp), by rw [hc.row (row_lt h.h) (by simp)]; exact h.h, h.hp, h.hg, h.np, chg_below' h.b hc (by simp) (Nat.le_trans hN h.b.size)⟩
theorem had4 (rl k) : (hadL rl k).toArray = #[.int .i64 (if 0 ∈ rl.take k then 1 else 0), .int .i64 (if 1 ∈ rl.take k then 1 else 0), .int .i64 (if 2 ∈ rl.take k then 1 else 0), .int .i64 (if 3 ∈ rl.take k then 1 else 0)] := rfl
theorem field40 (S : Sta) (W : World) : (Instr.field 40 (.agg (stL S).toArray) 0).run Try.prog W = .ok (.int .i64 S.s) W := by kernel_rfl
theorem idx0 (a b c d : Int) (W : World) : (Instr.index 43 (.agg #[.int .i64 a, .int .i64 b, .int .i64 c, .int .i64 d]) (.int .i64 0)).run Try.prog W = .ok (.int .i64 a) W := by kernel_rfl
theorem idx1 (a b c d : Int) (W : World) : (Instr.index 43 (.agg #[.int .i64 a, .int .i64 b, .int .i64 c, .int .i64 d]) (.int .i64 1)).run Try.prog W = .ok (.int .i64 b) W := by kernel_rfl
theorem idx2 (a b c d : Int) (W : World) : (Instr.index 43 (.agg #[.int .i64 a, .int .i64 b, .int .i64 c, .int .i64 d]) (.int .i64 2)).run Try.prog W = .ok (.int .i64 c) W := by kernel_rfl
theorem idx3 (a b c d : Int) (W : World) : (Instr.index 43 (.agg #[.int .i64 a, .int .i64 b, .int .i64 c, .int .i64 d]) (.int .i64 3)).run Try.prog W = .ok (.int .i64 d) W := by kernel_rfl
theorem a43 : aggT Try.prog 43 4 := aggT_of (by kernel_rfl)
set_option maxRecDepth 100000 in
set_option maxHeartbeats 6400000 in
theorem turns_walk (pe : Option Addr) (eb eo n ce : Nat) (E : Nat → Nat) (p : Option Addr) (b o m c : Nat) (hm : m ≤ 200) (h1 : 1 ≤ n) (h4 : n ≤ 4) (w : World) (hpe : pe = some ⟨eb, eo, none⟩) (hcell : ∀ k, k < n → w.cell? ⟨eb, eo + k, none⟩ = some (.int .u32 (E k : Int)))
    (hp : 0 < m → p = some ⟨b, o, none⟩) (hcalls : CallsAt w b o m) : Calls Try.prog 4 #[.slice pe n ce, .slice p m c] w fun e w' => e = .returned (.bool true) ∧ Below w.heap.size w w' := by
  have dl : decide ((m : Int) > 200) = false := by simp; omega
  have dl2 : decide (200 < (m : Int)) = false := by simp; omega
  have d1 : decide ((n : Int) < 1) = false := by simp; omega
  have d2 : decide ((n : Int) > 4) = false := by simp; omega
  have d3 : decide (4 < (n : Int)) = false := by simp; omega
  have HC := Lib.hid hcalls
  have HP := Lib.hid hp
  have H1 := Lib.hid h1
  have H4 := Lib.hid h4
  have HNEW := Lib.hid (fun w0 hB => sim_new2 (W := w) (w0 := w0) pe eb eo n ce E h1 h4 hpe hcell hB)
  have HM := Lib.hid hm
  clear hcalls hp h1 h4 hcell hpe hm
  go_enter Try.func4, Try.ntmps4
  go_wp2_with fail
  refine (fit_ok w).mono ?_
  rintro e w0 ⟨rfl, hB0⟩
  have HN0 := Lib.hid (HNEW.out w0 hB0)
  clear hB0
  go_wp2_with fail
  refine HN0.out.mono ?_
  rintro e w1 ⟨br, rfl, hc1, hk2⟩
  have HK2 := Lib.hid hk2
  clear hc1 hk2 HN0 HNEW
  go_wp2_with fail
  refine HK2.out.mono ?_
  rintro e w2 ⟨bp, rfl, hS, hB⟩
  have HS := Lib.hid hS
  have HB := Lib.hid hB
  clear hS hB HK2 dl dl2 d1 d2 d3
  go_wp2_with fail
  go_loopw [40, 8] (fun i _ wr => ∃ k : Nat, k ≤ m ∧ i = .int .i64 k ∧ SimE w.heap.size wr bp br n ∧ Below w.heap.size w wr) (fun i _ _ => m - (intOf i).toNat)
  case atStart => exact ⟨0, by omega, rfl, HS.out, HB.out⟩
  case round =>
    obtain ⟨k, hk, rfl, hS, hB⟩ := hrel
    have HSk := Lib.hid hS
    have HBk := Lib.hid hB
    clear hS hB
    by_cases hk2 : k < m
    · have dk : decide ((k : Int) < (m : Int)) = true := by simp; omega
      have hkI : (k : Int) < (m : Int) := by omega
      obtain rfl := HP.out (by omega)
      obtain ⟨kd, x0, x1, pc, q, tb, td, len, cc, L, T, hca0⟩ := HC.out k hk2
      have hca := hca0.below HBk.out
      have HCA := Lib.hid hca
      have HLS := Lib.hid hca.list
      obtain ⟨C, hC⟩ : ∃ C, C = wr.heap.size := ⟨_, rfl⟩
      obtain ⟨Z, hZ⟩ : ∃ Z, Z = wr.alloc (.cells #[.int .i64 kd, .int .u32 (x0 : Int), .int .u32 (x1 : Int), .int .u32 (pc : Int), .slice q len cc, .int .i64 T] 35) := ⟨_, rfl⟩
      have rC : Z.row? C = some #[.int .i64 kd, .int .u32 (x0 : Int), .int .u32 (x1 : Int), .int .u32 (pc : Int), .slice q len cc, .int .i64 T] := by rw [hZ]; exact row_alloc_at _ _ _ _ hC
      have c4 : Z.cell? ⟨C, 4, none⟩ = some (.slice q len cc) := by rw [row_cell rC]; rfl
      have hcZ : Chg [] wr Z := by rw [hZ]; exact (Chg.refl _ _).alloc _
      have HSB : Hid (0 < len → tb < w.heap.size) := Lib.hid fun h0 => hca0.l.lt h0
      have HNW : Hid (w.heap.size ≤ wr.heap.size) := Lib.hid HBk.out.size
      have HRC := Lib.hid rC
      have HCZ := Lib.hid hcZ
      have HCC := Lib.hid hC
      have HZZ := Lib.hid hZ
      clear hca hca0 rC hcZ hC hZ
      go_upto_region 10 with (first | refine wpList_load_part a35 [.int .i64 kd, .int .u32 (x0 : Int), .int .u32 (x1 : Int), .int .u32 (pc : Int), .slice q len cc, .int .i64 T] rfl _ rfl rfl rfl HLS.out ?_ | refine wpList_store_new a35 _ _ rfl rfl rfl rfl rfl rfl rfl rfl ?_)
      rw [← HCC.out, ← HZZ.out]
      by_cases hlen : 20 < len
      · have dl : decide ((len : Int) > 20) = true := by simp; omega
        have dl2 : decide (20 < (len : Int)) = true := by simp; omega
        have HBZ : Hid (Below w.heap.size w Z) := Lib.hid (chg_below' HBk.out HCZ.out (by simp) HNW.out)
        clear hlen
        go_wp2
        go_ret
        exact ⟨rfl, HBZ.out⟩
      · have dl : decide ((len : Int) > 20) = false := by simp; omega
        have dl2 : decide (20 < (len : Int)) = false := by simp; omega
        obtain ⟨f, t, g, ob, cap, rl, gl, vr, vg, hsim⟩ := HSk.out
        have hsz := hsim.keep HCZ.out (by simp)
        have hpl := play_in hsz (by have := H4.out; omega) H1.out (Nat.le_trans HNW.out HCZ.out.size) kd x0 x1 pc HCA.out.x q tb td len cc L T HCA.out.t HCA.out.p (HCA.out.l.keep HCZ.out (by simp)) HSB.out
        have HPL := Lib.hid hpl
        have HLZ : Hid (∀ (j : Nat) (u : Value), [Value.int .i64 kd, .int .u32 (x0 : Int), .int .u32 (x1 : Int), .int .u32 (pc : Int), .slice q len cc, .int .i64 T][j]? = some u → Z.cell? ⟨C, 0 + j, none⟩ = some u) := Lib.hid fun j u hu => by
          rw [Nat.zero_add, row_cell HRC.out]; simpa using hu
        have k1 : k + 1 ≤ m := hk2
        have hwk : wrap64 ((k : Int) + 1) = ((k + 1 : Nat) : Int) := by rw [IntWalk.wrap64_in _ ⟨by omega, by have := HM.out; omega⟩]; simp
        have HWK := Lib.hid hwk
        clear hwk
        clear hsim hsz hpl hlen
        go_wp2_with (first | refine wpList_load_part a35 [.int .i64 kd, .int .u32 (x0 : Int), .int .u32 (x1 : Int), .int .u32 (pc : Int), .slice q len cc, .int .i64 T] rfl _ rfl rfl rfl HLZ.out ?_ | fail)
        refine HPL.out.mono ?_
        rintro e w3 ⟨rfl, hS3, hB3⟩
        have HB3 : Hid (Below w.heap.size w w3) := Lib.hid ((chg_below' HBk.out HCZ.out (by simp) HNW.out).trans hB3)
        have HS3 := Lib.hid hS3
        clear hB3 hS3 c4 HPL HLZ HRC HZZ HLS HCC
        go_wp2
        rw [HWK.out]
        exact ⟨⟨k + 1, k1, rfl, HS3.out, HB3.out⟩, by simp only [intOf, Int.toNat_natCast]; omega⟩
    · obtain rfl : k = m := by omega
      have dk : decide ((k : Int) < (k : Int)) = false := by simp
      obtain ⟨f, t, g, ob, cap, rl, gl, vr, vg, h3⟩ := HSk.out
      obtain ⟨htt, hT1, hT2⟩ := sim_turn h3 (by have := H4.out; omega)
      have HT1 := Lib.hid hT1
      have HTT := Lib.hid htt
      obtain ⟨ha, hnd, hcn, hmr⟩ := h3.rel.atK H1.out (by have := H4.out; omega)
      have HA0 := Lib.hid ha
      have HND := Lib.hid hnd
      have HCN := Lib.hid hcn
      have HMR := Lib.hid hmr
      have HPW := Lib.hid h3.p
      have HNP := Lib.hid h3.np
      clear hT1 hT2 htt ha hnd hcn hmr h3 HSk
      go_wp2_with fail
      refine HT1.out.mono ?_
      rintro e w' ⟨rfl, rfl⟩
      go_upto_region 17 with (fail)
      obtain ⟨H, hH⟩ : ∃ H, H = w'.heap.size := ⟨_, rfl⟩
      obtain ⟨V, hV⟩ : ∃ V, V = w'.alloc (.cells #[.int .i64 0, .int .i64 0, .int .i64 0, .int .i64 0] 43) := ⟨_, rfl⟩
      have hcV : Chg [] w' V := by rw [hV]; exact (Chg.refl _ _).alloc _
      have hR0 : Rnd w.heap.size w V bp n f t g ob cap H rl 0 := ⟨HPW.out.keep hcV (by simp) (by simp), by rw [hV, row_alloc_at _ _ _ _ hH, had4]; simp, by have := HPW.out.lt; omega, by have := HPW.out.ltg; omega, HNP.out, chg_below' HBk.out hcV (by simp) HBk.out.size⟩
      have HR0 := Lib.hid hR0
      have HHN : Hid (w.heap.size ≤ H) := Lib.hid (by have := HBk.out.size; omega)
      have HCT := Lib.hid (count_in hR0.p)
      rw [← hH, ← hV]
      clear hH hV hcV hR0 dk hk hk2
      go_wp2_with fail
      refine HCT.out.mono ?_
      rintro e w' ⟨rfl, rfl⟩
      go_wp2_with fail
      go_loopw [57, 10, 12] (fun i q _ wr => ∃ j : Nat, j ≤ n ∧ i = .int .i64 j ∧ q = .int .i64 (cntR (rB f) j : Int) ∧ Rnd w.heap.size w wr bp n f t g ob cap H rl 0) (fun i _ _ _ => n - (intOf i).toNat)
      case atStart => exact ⟨0, by omega, rfl, rfl, HR0.out⟩
      case round =>
        obtain ⟨j, hj, rfl, rfl, hR⟩ := hrel
        have HR := Lib.hid hR
        by_cases hj2 : j < n
        · have dj : decide ((j : Int) < (n : Int)) = true := by simp; omega
          have hjI : (j : Int) < (n : Int) := by omega
          have j1 : j + 1 ≤ n := hj2
          have hST := status_in hR.p j hj2
          have hwj : wrap64 ((j : Int) + 1) = ((j + 1 : Nat) : Int) := by rw [IntWalk.wrap64_in _ ⟨by omega, by have := H4.out; omega⟩]; simp
          have hcs := cntR_succ (rB f) j
          obtain ⟨q, hq⟩ : ∃ q, q = cntR (rB f) j := ⟨_, rfl⟩
          rw [← hq] at hcs
          have hql : q ≤ j := by rw [hq]; exact Nat.le_trans (List.length_filter_le _ _) (by simp)
          have hwq : wrap64 ((q : Int) + 1) = ((q + 1 : Nat) : Int) := by rw [IntWalk.wrap64_in _ ⟨by omega, by have := H4.out; omega⟩]; simp
          have HWJ := Lib.hid hwj
          have HWQ := Lib.hid hwq
          have HCS := Lib.hid hcs
          have HST := Lib.hid hST
          obtain ⟨S, hS⟩ : ∃ S, S = f j := ⟨_, rfl⟩
          have hrb : rB f j = decide (S.s = 0) := by rw [hS]; rfl
          rw [hrb] at HCS
          rw [← hS] at HST
          obtain ⟨A, hA⟩ : ∃ A, A = (stL S).toArray := ⟨_, rfl⟩
          have hA0 : ∀ W, (Instr.field 40 (.agg A) 0).run Try.prog W = .ok (.int .i64 S.s) W := fun W => by rw [hA]; exact field40 S W
          rw [← hA] at HST
          rw [← hq]
          clear hR hST hwj hwq hcs hql hrb hS hA hq
          go_wp2_with fail
          refine HST.out.mono ?_
          rintro e w3 ⟨rfl, hc3⟩
          have HR3 := Lib.hid (HR.out.keep (Nat.le_refl _) hc3)
          clear hc3
          by_cases hz : S.s = 0
          · have hcj : cntR (rB f) (j + 1) = q + 1 := by rw [HCS.out]; simp [hz]
            have HCJ := Lib.hid hcj
            rw [hz] at hA0
            clear hcj hz
            go_wp2
            first | rw [HWJ.out, HWQ.out] | rw [HWQ.out, HWJ.out]
            refine ⟨⟨j + 1, j1, rfl, by rw [HCJ.out], HR3.out⟩, ?_⟩
            simp only [intOf, Int.toNat_natCast]; omega
          · have hcj : cntR (rB f) (j + 1) = q := by rw [HCS.out]; simp [hz]
            have HCJ := Lib.hid hcj
            have z1 : (S.s == 0) = false := by simpa using hz
            have z2 : (S.s = 0) = False := by simpa using hz
            clear hcj hz
            go_wp2
            rw [HWJ.out]
            refine ⟨⟨j + 1, j1, rfl, by rw [HCJ.out], HR3.out⟩, ?_⟩
            simp only [intOf, Int.toNat_natCast]; omega
        · obtain rfl : j = n := by omega
          have dj : decide ((j : Int) < (j : Int)) = false := by simp
          rw [HCN.out]
          obtain ⟨R, hRl⟩ : ∃ R, R = rl.length := ⟨_, rfl⟩
          rw [← hRl]
          have HRL := Lib.hid hRl
          have hR4 : R ≤ j := by rw [hRl, ← HCN.out]; exact Nat.le_trans (List.length_filter_le _ _) (by simp)
          have HR4 := Lib.hid hR4
          clear hR hRl hR4 hj hj2
          go_wp2_with fail
          go_loopw [69, 13] (fun i _ wr => ∃ (r : Nat) (tr : Int), r ≤ R ∧ i = .int .i64 r ∧ AtK f j rl r tr ∧ (tr < 0 ∨ ∃ τ : Nat, tr = τ) ∧ Rnd w.heap.size w wr bp j f tr g ob cap H rl r) (fun i _ _ => R - (intOf i).toNat)
          case atStart => exact ⟨0, t, by omega, rfl, HA0.out, by rcases HTT.out with h | ⟨τ, h, -⟩
                                                                  · left; omega
                                                                  · exact .inr ⟨τ, h⟩, HR.out⟩
          case round =>
            obtain ⟨r, tr, hr, rfl, hak, htr, hRn⟩ := hrel
            have HRn := Lib.hid hRn
            have HAK := Lib.hid hak
            have HTR := Lib.hid htr
            clear hak htr hRn
            by_cases hr2 : r < R
            · have dr : decide ((r : Int) < (R : Int)) = true := by simp; omega
              have hrI : (r : Int) < (R : Int) := by omega
              have r1 : r + 1 ≤ R := hr2
              have hwr : wrap64 ((r : Int) + 1) = ((r + 1 : Nat) : Int) := by rw [IntWalk.wrap64_in _ ⟨by omega, by have := H4.out; have := HR4.out; omega⟩]; simp
              obtain ⟨τ, rfl⟩ : ∃ τ : Nat, tr = τ := by
                rcases HTR.out with h | h
                · have := (HAK.out.neg h).2.1
                  have h2 := HRL.out
                  rw [this] at h2; simp at h2; omega
                · exact h
              obtain ⟨hτ, hz, -⟩ := HAK.out.pos τ rfl
              have hTN := turn_in HRn.out.p
              rw [if_neg (by omega)] at hTN
              have HTN := Lib.hid hTN
              have HST := Lib.hid (status_in HRn.out.p τ hτ)
              have dτ : decide ((τ : Int) < 0) = false := by simp
              obtain ⟨A, hA⟩ : ∃ A, A = (stL (f τ)).toArray := ⟨_, rfl⟩
              have hA0 : ∀ W, (Instr.field 40 (.agg A) 0).run Try.prog W = .ok (.int .i64 0) W := fun W => by rw [hA, field40 (f τ) W, hz]
              rw [← hA] at HST
              have HWR := Lib.hid hwr
              have HTAU := Lib.hid hτ
              have HZ0 := Lib.hid hz
              clear hTN hA hwr hτ hz
              go_wp2_with fail
              refine HTN.out.mono ?_
              rintro e w3 ⟨rfl, rfl⟩
              go_wp2_with fail
              refine HST.out.mono ?_
              rintro e w4 ⟨rfl, hc4⟩
              have HR5 := Lib.hid (HRn.out.keep (Nat.le_refl _) hc4)
              have hrl : r < rl.length := by have := HRL.out; omega
              have hτ4 : τ < 4 := by have := HTAU.out; have := H4.out; omega
              obtain ⟨hPb⟩ : ∃ _ : True, True := ⟨trivial, trivial⟩
              have hP := pass_in τ HR5.out.p HTAU.out H4.out
              have hrow := HR5.out.h
              have hget : rl[r]? = some τ := by
                have h2 := (HAK.out.pos τ rfl).2.2
                obtain ⟨ht', hz', -⟩ := HAK.out.pos τ rfl
                obtain ⟨rest, t2, h3, -⟩ := pass_law (rB f) (by have := H4.out; omega) ht' (by simp [rB, hz'])
                rw [h3, List.drop_eq_getElem_cons hrl, List.cons_append] at h2
                injection h2 with e1 e2
                rw [List.getElem?_eq_getElem hrl, e1]
              have hnot := hadL_new HND.out hget
              have hcell : w4.cell? ⟨H, τ, none⟩ = some (.int .i64 0) := by
                rw [row_cell hrow]
                have := hadL_get rl r τ hτ4
                rw [if_neg hnot] at this
                simpa using this
              have hfro := row_free hrow τ
              have hτI : (τ : Int) < 4 := by omega
              have hτI2 : decide ((τ : Int) < 4) = true := by simp; omega
              obtain ⟨W5, hW5⟩ : ∃ W5, W5 = w4.setCell ⟨H, τ, none⟩ (.int .i64 1) := ⟨_, rfl⟩
              have hc5 : Chg [H] w4 W5 := by rw [hW5]; exact (Chg.refl _ _).setCell (Or.inl (by simp)) _
              have hr5 : W5.row? H = some (hadL rl (r + 1)).toArray := by rw [hW5, row_setCell_same, hrow, Option.map_some, hadL_succ hget hτ4]
              have hp5 := HR5.out.p.keep hc5 (by simpa using HR5.out.hp.symm) (by simpa using HR5.out.hg.symm)
              have hP5 := pass_in τ hp5 HTAU.out H4.out
              have HP5 := Lib.hid hP5
              have HW5 := Lib.hid hW5
              have HC5 := Lib.hid hc5
              have HR6 := Lib.hid hr5
              have HRL2 := Lib.hid hrl
              clear hP hrow hget hnot hW5 hc5 hr5 hp5 hP5 hrl hτ4 hc4
              go_upto_region 29 with (fail)
              rw [← HW5.out]
              clear hcell hfro hA0
              go_wp2_with fail
              refine HP5.out.mono ?_
              rintro e w6 ⟨rfl, t', hN, hp6, hc6⟩
              have hA6 := (HAK.out.next (by have := H4.out; omega) HRL2.out hN).2
              have htr6 : t' < 0 ∨ ∃ τ : Nat, t' = τ := by
                by_cases h : t' < 0
                · exact .inl h
                · exact .inr ⟨t'.toNat, by omega⟩
              have hR6 : Rnd w.heap.size w w6 bp j f t' g ob cap H rl (r + 1) := by
                have h5 := HR5.out
                refine ⟨hp6, by rw [hc6.row (row_lt HR6.out) (by simpa using h5.hp)]; exact HR6.out, h5.hp, h5.hg, h5.np, ?_⟩
                have hs := h5.b.size
                have hHl : w.heap.size ≤ H := HHN.out
                exact chg_below' (chg_below' h5.b HC5.out (by simpa using hHl) hs) hc6 (by simpa using h5.np) (by have := HC5.out.size; omega)
              have HA6 := Lib.hid hA6
              have HT6 := Lib.hid htr6
              have HR7 := Lib.hid hR6
              clear hN hp6 hc6 hA6 htr6 hR6 dτ hτI hτI2 hrI dr hr2 hr
              go_wp2
              rw [HWR.out]
              refine ⟨⟨r + 1, t', r1, rfl, HA6.out, HT6.out, HR7.out⟩, ?_⟩
              simp only [intOf, Int.toNat_natCast]; omega
            · obtain rfl : r = R := by omega
              have dr : decide ((r : Int) < (r : Int)) = false := by simp
              have htt0 : tr = t := HA0.out.last (by have h := HAK.out; rw [HRL.out] at h; exact h) (by have := H4.out; omega) (by
                rcases HTT.out with h | ⟨τ, h, -⟩
                · left; omega
                · exact .inr ⟨τ, h⟩) HTR.out
              subst htt0
              clear hr hr2 dj
              have hld : ∀ j u, (hadL rl r)[j]? = some u → wr.cell? ⟨H, 0 + j, none⟩ = some u := fun j u hu => by
                rw [Nat.zero_add, row_cell HRn.out.h]; simpa using hu
              have HLD := Lib.hid hld
              have hl4 : (hadL rl r).length = 4 := by simp [hadL]
              obtain ⟨D, hD⟩ : ∃ D : Nat → Int, D = fun i => if i ∈ rl then 1 else 0 := ⟨_, rfl⟩
              have hDL : (hadL rl r).toArray = #[.int .i64 (D 0), .int .i64 (D 1), .int .i64 (D 2), .int .i64 (D 3)] := by
                rw [had4, hD, HRL.out]; simp only [List.take_length]
              have HD := Lib.hid hD
              clear hld hD
              obtain ⟨AL, hAL⟩ : ∃ AL, AL = hadL rl r := ⟨_, rfl⟩
              rw [← hAL] at hDL HLD hl4
              have HAL := Lib.hid hAL
              clear hAL
              go_wp2_with (refine wpList_load_part a43 AL rfl _ rfl rfl hl4 HLD.out ?_)
              try rw [hDL]
              clear hDL hl4 HLD HAL HT1 HPW HR0 HR HCT HC HP HBk HS HB
              go_loopw [91, 14, 15] (fun i _ _ wr => ∃ q : Nat, q ≤ 4 ∧ i = .int .i64 q ∧ Rnd w.heap.size w wr bp j f tr g ob cap H rl r) (fun i _ _ _ => 4 - (intOf i).toNat)
              case atStart => exact ⟨0, by omega, rfl, HRn.out⟩
              case round =>
                obtain ⟨q, hq, rfl, hRq⟩ := hrel
                have HRq := Lib.hid hRq
                clear hRq dr
                rcases (show q = 0 ∨ q = 1 ∨ q = 2 ∨ q = 3 ∨ q = 4 by omega) with rfl | rfl | rfl | rfl | rfl
                · have hD0 : D 0 = if 0 ∈ rl then 1 else 0 := by rw [HD.out]
                  by_cases hm : 0 ∈ rl
                  · rw [if_pos hm] at hD0
                    have ix : ∀ W, (Instr.index 43 (.agg #[.int .i64 (D 0), .int .i64 (D 1), .int .i64 (D 2), .int .i64 (D 3)]) (.int .i64 0)).run Try.prog W = .ok (.int .i64 1) W := fun W => by rw [idx0, hD0]
                    clear hD0
                    obtain ⟨hin, hz⟩ := (HMR.out 0).1 hm
                    have hcn := count_in HRq.out.p
                    have hst := status_in HRq.out.p 0 hin
                    have HCN2 := Lib.hid hcn
                    have HST2 := Lib.hid hst
                    have HRK := Lib.hid (fun w' (hc : Chg [] wr w') => HRq.out.keep (Nat.le_refl _) hc)
                    have di : decide ((0 : Int) < (j : Int)) = true := by simp; omega
                    have di2 : (0 : Int) < (j : Int) := by omega
                    have di3 : 0 < j := by omega
                    obtain ⟨A, hA⟩ : ∃ A, A = (stL (f 0)).toArray := ⟨_, rfl⟩
                    have hA0 : ∀ W, (Instr.field 40 (.agg A) 0).run Try.prog W = .ok (.int .i64 0) W := fun W => by rw [hA, field40 (f 0) W, hz]
                    rw [← hA] at HST2
                    clear hcn hst hA hin hz hm
                    go_wp2_with fail
                    refine HCN2.out.mono ?_
                    rintro e w7 ⟨rfl, rfl⟩
                    go_wp2_with fail
                    refine HST2.out.mono ?_
                    rintro e w8 ⟨rfl, hc8⟩
                    have HR8 := Lib.hid (HRK.out w8 hc8)
                    clear hc8
                    go_wp2
                    go_roundw
                    case rel => exact ⟨1, by omega, rfl, HR8.out⟩
                    case measure => simp [intOf]
                  · rw [if_neg hm] at hD0
                    have ix : ∀ W, (Instr.index 43 (.agg #[.int .i64 (D 0), .int .i64 (D 1), .int .i64 (D 2), .int .i64 (D 3)]) (.int .i64 0)).run Try.prog W = .ok (.int .i64 0) W := fun W => by rw [idx0, hD0]
                    clear hD0
                    by_cases hin : 0 < j
                    · have hz : (f 0).s ≠ 0 := fun h => hm ((HMR.out 0).2 ⟨hin, h⟩)
                      have hcn := count_in HRq.out.p
                      have hst := status_in HRq.out.p 0 hin
                      have HCN2 := Lib.hid hcn
                      have HST2 := Lib.hid hst
                      have HRK := Lib.hid (fun w' (hc : Chg [] wr w') => HRq.out.keep (Nat.le_refl _) hc)
                      have di : decide ((0 : Int) < (j : Int)) = true := by simp; omega
                      have di2 : (0 : Int) < (j : Int) := by omega
                      obtain ⟨z, hzz⟩ : ∃ z, z = (f 0).s := ⟨_, rfl⟩
                      rw [← hzz] at hz
                      have z1 : (z == 0) = false := by simpa using hz
                      have z2 : (z = 0) = False := by simpa using hz
                      obtain ⟨A, hA⟩ : ∃ A, A = (stL (f 0)).toArray := ⟨_, rfl⟩
                      have hA0 : ∀ W, (Instr.field 40 (.agg A) 0).run Try.prog W = .ok (.int .i64 z) W := fun W => by rw [hA, field40 (f 0) W, hzz]
                      rw [← hA] at HST2
                      clear hcn hst hA hin hz hm hzz
                      go_wp2_with fail
                      refine HCN2.out.mono ?_
                      rintro e w7 ⟨rfl, rfl⟩
                      go_wp2_with fail
                      refine HST2.out.mono ?_
                      rintro e w8 ⟨rfl, hc8⟩
                      have HR8 := Lib.hid (HRK.out w8 hc8)
                      clear hc8
                      go_wp2
                      go_roundw
                      case rel => exact ⟨1, by omega, rfl, HR8.out⟩
                      case measure => simp [intOf]
                    · have hcn := count_in HRq.out.p
                      have HCN2 := Lib.hid hcn
                      have di : decide ((0 : Int) < (j : Int)) = false := by simp; omega
                      have di2 : ((0 : Int) < (j : Int)) = False := by simp; omega
                      have di3 : (0 < j) = False := by simp; omega
                      clear hcn hin hm
                      go_wp2_with fail
                      refine HCN2.out.mono ?_
                      rintro e w7 ⟨rfl, rfl⟩
                      go_wp2
                      go_roundw
                      case rel => exact ⟨1, by omega, rfl, HRq.out⟩
                      case measure => simp [intOf]
                · have hD1 : D 1 = if 1 ∈ rl then 1 else 0 := by rw [HD.out]
                  by_cases hm : 1 ∈ rl
                  · rw [if_pos hm] at hD1
                    have ix : ∀ W, (Instr.index 43 (.agg #[.int .i64 (D 0), .int .i64 (D 1), .int .i64 (D 2), .int .i64 (D 3)]) (.int .i64 1)).run Try.prog W = .ok (.int .i64 1) W := fun W => by rw [idx1, hD1]
                    clear hD1
                    obtain ⟨hin, hz⟩ := (HMR.out 1).1 hm
                    have hcn := count_in HRq.out.p
                    have hst := status_in HRq.out.p 1 hin
                    have HCN2 := Lib.hid hcn
                    have HST2 := Lib.hid hst
                    have HRK := Lib.hid (fun w' (hc : Chg [] wr w') => HRq.out.keep (Nat.le_refl _) hc)
                    have di : decide ((1 : Int) < (j : Int)) = true := by simp; omega
                    have di2 : (1 : Int) < (j : Int) := by omega
                    have di3 : 1 < j := by omega
                    obtain ⟨A, hA⟩ : ∃ A, A = (stL (f 1)).toArray := ⟨_, rfl⟩
                    have hA0 : ∀ W, (Instr.field 40 (.agg A) 0).run Try.prog W = .ok (.int .i64 0) W := fun W => by rw [hA, field40 (f 1) W, hz]
                    rw [← hA] at HST2
                    clear hcn hst hA hin hz hm
                    go_wp2_with fail
                    refine HCN2.out.mono ?_
                    rintro e w7 ⟨rfl, rfl⟩
                    go_wp2_with fail
                    refine HST2.out.mono ?_
                    rintro e w8 ⟨rfl, hc8⟩
                    have HR8 := Lib.hid (HRK.out w8 hc8)
                    clear hc8
                    go_wp2
                    go_roundw
                    case rel => exact ⟨2, by omega, rfl, HR8.out⟩
                    case measure => simp [intOf]
                  · rw [if_neg hm] at hD1
                    have ix : ∀ W, (Instr.index 43 (.agg #[.int .i64 (D 0), .int .i64 (D 1), .int .i64 (D 2), .int .i64 (D 3)]) (.int .i64 1)).run Try.prog W = .ok (.int .i64 0) W := fun W => by rw [idx1, hD1]
                    clear hD1
                    by_cases hin : 1 < j
                    · have hz : (f 1).s ≠ 0 := fun h => hm ((HMR.out 1).2 ⟨hin, h⟩)
                      have hcn := count_in HRq.out.p
                      have hst := status_in HRq.out.p 1 hin
                      have HCN2 := Lib.hid hcn
                      have HST2 := Lib.hid hst
                      have HRK := Lib.hid (fun w' (hc : Chg [] wr w') => HRq.out.keep (Nat.le_refl _) hc)
                      have di : decide ((1 : Int) < (j : Int)) = true := by simp; omega
                      have di2 : (1 : Int) < (j : Int) := by omega
                      obtain ⟨z, hzz⟩ : ∃ z, z = (f 1).s := ⟨_, rfl⟩
                      rw [← hzz] at hz
                      have z1 : (z == 0) = false := by simpa using hz
                      have z2 : (z = 0) = False := by simpa using hz
                      obtain ⟨A, hA⟩ : ∃ A, A = (stL (f 1)).toArray := ⟨_, rfl⟩
                      have hA0 : ∀ W, (Instr.field 40 (.agg A) 0).run Try.prog W = .ok (.int .i64 z) W := fun W => by rw [hA, field40 (f 1) W, hzz]
                      rw [← hA] at HST2
                      clear hcn hst hA hin hz hm hzz
                      go_wp2_with fail
                      refine HCN2.out.mono ?_
                      rintro e w7 ⟨rfl, rfl⟩
                      go_wp2_with fail
                      refine HST2.out.mono ?_
                      rintro e w8 ⟨rfl, hc8⟩
                      have HR8 := Lib.hid (HRK.out w8 hc8)
                      clear hc8
                      go_wp2
                      go_roundw
                      case rel => exact ⟨2, by omega, rfl, HR8.out⟩
                      case measure => simp [intOf]
                    · have hcn := count_in HRq.out.p
                      have HCN2 := Lib.hid hcn
                      have di : decide ((1 : Int) < (j : Int)) = false := by simp; omega
                      have di2 : ((1 : Int) < (j : Int)) = False := by simp; omega
                      have di3 : (1 < j) = False := by simp; omega
                      clear hcn hin hm
                      go_wp2_with fail
                      refine HCN2.out.mono ?_
                      rintro e w7 ⟨rfl, rfl⟩
                      go_wp2
                      go_roundw
                      case rel => exact ⟨2, by omega, rfl, HRq.out⟩
                      case measure => simp [intOf]
                · have hD2 : D 2 = if 2 ∈ rl then 1 else 0 := by rw [HD.out]
                  by_cases hm : 2 ∈ rl
                  · rw [if_pos hm] at hD2
                    have ix : ∀ W, (Instr.index 43 (.agg #[.int .i64 (D 0), .int .i64 (D 1), .int .i64 (D 2), .int .i64 (D 3)]) (.int .i64 2)).run Try.prog W = .ok (.int .i64 1) W := fun W => by rw [idx2, hD2]
                    clear hD2
                    obtain ⟨hin, hz⟩ := (HMR.out 2).1 hm
                    have hcn := count_in HRq.out.p
                    have hst := status_in HRq.out.p 2 hin
                    have HCN2 := Lib.hid hcn
                    have HST2 := Lib.hid hst
                    have HRK := Lib.hid (fun w' (hc : Chg [] wr w') => HRq.out.keep (Nat.le_refl _) hc)
                    have di : decide ((2 : Int) < (j : Int)) = true := by simp; omega
                    have di2 : (2 : Int) < (j : Int) := by omega
                    have di3 : 2 < j := by omega
                    obtain ⟨A, hA⟩ : ∃ A, A = (stL (f 2)).toArray := ⟨_, rfl⟩
                    have hA0 : ∀ W, (Instr.field 40 (.agg A) 0).run Try.prog W = .ok (.int .i64 0) W := fun W => by rw [hA, field40 (f 2) W, hz]
                    rw [← hA] at HST2
                    clear hcn hst hA hin hz hm
                    go_wp2_with fail
                    refine HCN2.out.mono ?_
                    rintro e w7 ⟨rfl, rfl⟩
                    go_wp2_with fail
                    refine HST2.out.mono ?_
                    rintro e w8 ⟨rfl, hc8⟩
                    have HR8 := Lib.hid (HRK.out w8 hc8)
                    clear hc8
                    go_wp2
                    go_roundw
                    case rel => exact ⟨3, by omega, rfl, HR8.out⟩
                    case measure => simp [intOf]
                  · rw [if_neg hm] at hD2
                    have ix : ∀ W, (Instr.index 43 (.agg #[.int .i64 (D 0), .int .i64 (D 1), .int .i64 (D 2), .int .i64 (D 3)]) (.int .i64 2)).run Try.prog W = .ok (.int .i64 0) W := fun W => by rw [idx2, hD2]
                    clear hD2
                    by_cases hin : 2 < j
                    · have hz : (f 2).s ≠ 0 := fun h => hm ((HMR.out 2).2 ⟨hin, h⟩)
                      have hcn := count_in HRq.out.p
                      have hst := status_in HRq.out.p 2 hin
                      have HCN2 := Lib.hid hcn
                      have HST2 := Lib.hid hst
                      have HRK := Lib.hid (fun w' (hc : Chg [] wr w') => HRq.out.keep (Nat.le_refl _) hc)
                      have di : decide ((2 : Int) < (j : Int)) = true := by simp; omega
                      have di2 : (2 : Int) < (j : Int) := by omega
                      obtain ⟨z, hzz⟩ : ∃ z, z = (f 2).s := ⟨_, rfl⟩
                      rw [← hzz] at hz
                      have z1 : (z == 0) = false := by simpa using hz
                      have z2 : (z = 0) = False := by simpa using hz
                      obtain ⟨A, hA⟩ : ∃ A, A = (stL (f 2)).toArray := ⟨_, rfl⟩
                      have hA0 : ∀ W, (Instr.field 40 (.agg A) 0).run Try.prog W = .ok (.int .i64 z) W := fun W => by rw [hA, field40 (f 2) W, hzz]
                      rw [← hA] at HST2
                      clear hcn hst hA hin hz hm hzz
                      go_wp2_with fail
                      refine HCN2.out.mono ?_
                      rintro e w7 ⟨rfl, rfl⟩
                      go_wp2_with fail
                      refine HST2.out.mono ?_
                      rintro e w8 ⟨rfl, hc8⟩
                      have HR8 := Lib.hid (HRK.out w8 hc8)
                      clear hc8
                      go_wp2
                      go_roundw
                      case rel => exact ⟨3, by omega, rfl, HR8.out⟩
                      case measure => simp [intOf]
                    · have hcn := count_in HRq.out.p
                      have HCN2 := Lib.hid hcn
                      have di : decide ((2 : Int) < (j : Int)) = false := by simp; omega
                      have di2 : ((2 : Int) < (j : Int)) = False := by simp; omega
                      have di3 : (2 < j) = False := by simp; omega
                      clear hcn hin hm
                      go_wp2_with fail
                      refine HCN2.out.mono ?_
                      rintro e w7 ⟨rfl, rfl⟩
                      go_wp2
                      go_roundw
                      case rel => exact ⟨3, by omega, rfl, HRq.out⟩
                      case measure => simp [intOf]
                · have hD3 : D 3 = if 3 ∈ rl then 1 else 0 := by rw [HD.out]
                  by_cases hm : 3 ∈ rl
                  · rw [if_pos hm] at hD3
                    have ix : ∀ W, (Instr.index 43 (.agg #[.int .i64 (D 0), .int .i64 (D 1), .int .i64 (D 2), .int .i64 (D 3)]) (.int .i64 3)).run Try.prog W = .ok (.int .i64 1) W := fun W => by rw [idx3, hD3]
                    clear hD3
                    obtain ⟨hin, hz⟩ := (HMR.out 3).1 hm
                    have hcn := count_in HRq.out.p
                    have hst := status_in HRq.out.p 3 hin
                    have HCN2 := Lib.hid hcn
                    have HST2 := Lib.hid hst
                    have HRK := Lib.hid (fun w' (hc : Chg [] wr w') => HRq.out.keep (Nat.le_refl _) hc)
                    have di : decide ((3 : Int) < (j : Int)) = true := by simp; omega
                    have di2 : (3 : Int) < (j : Int) := by omega
                    have di3 : 3 < j := by omega
                    obtain ⟨A, hA⟩ : ∃ A, A = (stL (f 3)).toArray := ⟨_, rfl⟩
                    have hA0 : ∀ W, (Instr.field 40 (.agg A) 0).run Try.prog W = .ok (.int .i64 0) W := fun W => by rw [hA, field40 (f 3) W, hz]
                    rw [← hA] at HST2
                    clear hcn hst hA hin hz hm
                    go_wp2_with fail
                    refine HCN2.out.mono ?_
                    rintro e w7 ⟨rfl, rfl⟩
                    go_wp2_with fail
                    refine HST2.out.mono ?_
                    rintro e w8 ⟨rfl, hc8⟩
                    have HR8 := Lib.hid (HRK.out w8 hc8)
                    clear hc8
                    go_wp2
                    go_roundw
                    case rel => exact ⟨4, by omega, rfl, HR8.out⟩
                    case measure => simp [intOf]
                  · rw [if_neg hm] at hD3
                    have ix : ∀ W, (Instr.index 43 (.agg #[.int .i64 (D 0), .int .i64 (D 1), .int .i64 (D 2), .int .i64 (D 3)]) (.int .i64 3)).run Try.prog W = .ok (.int .i64 0) W := fun W => by rw [idx3, hD3]
                    clear hD3
                    by_cases hin : 3 < j
                    · have hz : (f 3).s ≠ 0 := fun h => hm ((HMR.out 3).2 ⟨hin, h⟩)
                      have hcn := count_in HRq.out.p
                      have hst := status_in HRq.out.p 3 hin
                      have HCN2 := Lib.hid hcn
                      have HST2 := Lib.hid hst
                      have HRK := Lib.hid (fun w' (hc : Chg [] wr w') => HRq.out.keep (Nat.le_refl _) hc)
                      have di : decide ((3 : Int) < (j : Int)) = true := by simp; omega
                      have di2 : (3 : Int) < (j : Int) := by omega
                      obtain ⟨z, hzz⟩ : ∃ z, z = (f 3).s := ⟨_, rfl⟩
                      rw [← hzz] at hz
                      have z1 : (z == 0) = false := by simpa using hz
                      have z2 : (z = 0) = False := by simpa using hz
                      obtain ⟨A, hA⟩ : ∃ A, A = (stL (f 3)).toArray := ⟨_, rfl⟩
                      have hA0 : ∀ W, (Instr.field 40 (.agg A) 0).run Try.prog W = .ok (.int .i64 z) W := fun W => by rw [hA, field40 (f 3) W, hzz]
                      rw [← hA] at HST2
                      clear hcn hst hA hin hz hm hzz
                      go_wp2_with fail
                      refine HCN2.out.mono ?_
                      rintro e w7 ⟨rfl, rfl⟩
                      go_wp2_with fail
                      refine HST2.out.mono ?_
                      rintro e w8 ⟨rfl, hc8⟩
                      have HR8 := Lib.hid (HRK.out w8 hc8)
                      clear hc8
                      go_wp2
                      go_roundw
                      case rel => exact ⟨4, by omega, rfl, HR8.out⟩
                      case measure => simp [intOf]
                    · have hcn := count_in HRq.out.p
                      have HCN2 := Lib.hid hcn
                      have di : decide ((3 : Int) < (j : Int)) = false := by simp; omega
                      have di2 : ((3 : Int) < (j : Int)) = False := by simp; omega
                      have di3 : (3 < j) = False := by simp; omega
                      clear hcn hin hm
                      go_wp2_with fail
                      refine HCN2.out.mono ?_
                      rintro e w7 ⟨rfl, rfl⟩
                      go_wp2
                      go_roundw
                      case rel => exact ⟨4, by omega, rfl, HRq.out⟩
                      case measure => simp [intOf]
                · have hbq := HRq.out.b
                  have HBQ := Lib.hid hbq
                  have hT := turn_in HRq.out.p
                  rcases HTT.out with rfl | ⟨τ, rfl, hτ⟩
                  · have hr0 : r = 0 := by
                      have := (HA0.out.neg (by omega)).2.1
                      have h2 := HRL.out
                      rw [this] at h2; simpa using h2
                    rw [if_pos (by omega)] at hT
                    have HTN := Lib.hid hT
                    subst hr0
                    clear hT hbq
                    go_wp2_with fail
                    refine HTN.out.mono ?_
                    rintro e w7 ⟨rfl, rfl⟩
                    go_wp2
                    go_ret
                    exact ⟨rfl, HBQ.out⟩
                  · have hr0 : 0 < r := by
                      obtain ⟨h1, h2, h3⟩ := HA0.out.pos τ rfl
                      have := (HMR.out τ).2 ⟨h1, h2⟩
                      have h4 := HRL.out
                      have := List.length_pos_of_mem this
                      omega
                    rw [if_neg (by omega)] at hT
                    have HTN := Lib.hid hT
                    have d1 : decide ((r : Int) > 0) = true := by simp; omega
                    have d2 : decide ((0 : Int) < (r : Int)) = true := by simp; omega
                    have d3 : decide ((τ : Int) ≥ 0) = true := by simp
                    have d4 : decide ((0 : Int) ≤ (τ : Int)) = true := by simp
                    clear hT hbq
                    go_wp2_with fail
                    refine HTN.out.mono ?_
                    rintro e w7 ⟨rfl, rfl⟩
                    go_wp2
                    go_ret
                    exact ⟨rfl, HBQ.out⟩
theorem turns_all (pe : Option Addr) (eb eo n ce : Nat) (E : Nat → Nat) (hpe : 0 < n → pe = some ⟨eb, eo, none⟩) (p : Option Addr) (b o m c : Nat) (w : World) (hcell : ∀ k, k < n → w.cell? ⟨eb, eo + k, none⟩ = some (.int .u32 (E k : Int)))
    (hp : 0 < m → p = some ⟨b, o, none⟩) (hcalls : CallsAt w b o m) : Calls Try.prog 4 #[.slice pe n ce, .slice p m c] w fun e w' => e = .returned (.bool true) ∧ Below w.heap.size w w' := by
  by_cases h : 200 < m ∨ n < 1 ∨ 4 < n
  · exact turns_off pe n ce p m c h w
  · exact turns_walk pe eb eo n ce E p b o m c (by omega) (by omega) (by omega) w (hpe (by omega)) hcell hp hcalls
end Go.Proofs.L
