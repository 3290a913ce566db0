/- Proved here: lemmas and contracts (Rr8) for the laws of this seat, for all values of the stated types; no further condition. -/
import Derived.Test.YtjiiojbenbldlaaRr7
open Go Go.RowKit Go.Lib
namespace Go.Proofs.L
attribute [local irreducible] wpT
theorem results_tmp5 {fn : Func} {t u v x y : Tmp} (h : fn.results = #[.tmp t, .tmp u, .tmp v, .tmp x, .tmp y]) (tmps : Array Value) (P : Program) (w : World) :
    (results fn tmps).run P w = .ok (.tuple #[tmps.getD t undef, tmps.getD u undef, tmps.getD v undef, tmps.getD x undef, tmps.getD y undef]) w := by
  simp [results, h]
theorem u32mod (x : Nat) (h : x < 4294967296) : (x : Int) % 4294967296 = (x : Int) := by omega
theorem w64mul4 (j q : Nat) (h : j < 100000) (hq : q = 4 * j) : wrap64 (4 * (j : Int)) = (q : Int) := by rw [IntWalk.wrap64_in _ ⟨by omega, by omega⟩]; omega
theorem i64mul4 (j q : Nat) (h : j < 100000) (hq : q = 4 * j) : IntKind.i64.wrap (4 * (j : Int)) = (q : Int) := by
  have e : (4 : Int) * (j : Int) = (q : Int) := by omega
  rw [e]; exact i64in (by omega) (by omega)
theorem w64at (j q : Nat) (h : j < 1000000) (hq : q = 2147487744 + j) : wrap64 (2147487744 + (j : Int)) = (q : Int) := by rw [IntWalk.wrap64_in _ ⟨by omega, by omega⟩]; omega
theorem i64at (j q : Nat) (h : j < 1000000) (hq : q = 2147487744 + j) : IntKind.i64.wrap (2147487744 + (j : Int)) = (q : Int) := by
  have e : (2147487744 : Int) + (j : Int) = (q : Int) := by omega
  rw [e]; exact i64in (by omega) (by omega)
theorem w64subN (a b q : Nat) (ha : a < 100000) (hb : b ≤ a) (hq : q = a - b) : wrap64 ((a : Int) - (b : Int)) = (q : Int) ∧ IntKind.i64.wrap ((a : Int) - (b : Int)) = (q : Int) := by
  have e : (a : Int) - (b : Int) = (q : Int) := by omega
  rw [e]; exact w64id' q (by omega)
theorem tmod_bd (s : Int) (n : Nat) (hn : 0 < n) (hs : n < 1000) : wrap64 (s.tmod n) = s.tmod n := by
  have h1 := Int.lt_tmod_of_pos s (show (0 : Int) < n by omega)
  have h2 := Int.tmod_lt_of_pos s (show (0 : Int) < n by omega)
  exact IntWalk.wrap64_in _ ⟨by omega, by omega⟩
theorem wordsF_succ (Ws : List Nat) (k : Nat) : wordsF Ws (k + 1) = stN (wordsF Ws k) (4096 + 4 * k) (Ws.getD k 0) 4 := rfl
def LayE (W : World) (Ws : List Nat) (n : Nat) (more : Nat) (split : Int) (e : Ending) (w' : World) : Prop :=
  ∃ mb rp rm sb rb' N, e = .returned (.tuple #[.pointer (some ⟨mb, 0, none⟩), .pointer (some ⟨rp, 0, none⟩), .slice (some ⟨sb, 0, none⟩) 2 2, .slice (some ⟨rb', 0, none⟩) 2 2, .int .u32 (bsN more : Int)]) ∧ LayQ W w' mb rp rm sb rb' N (wordsF Ws n) (kN split n) n
set_option maxRecDepth 100000 in
set_option maxHeartbeats 16000000 in
theorem lay_any (j : Jb) (w : World) (Ws : List Nat) (hW : NatAt w .u32 j.bW j.oW Ws) (hWn : Ws.length = j.nW) (hp : 0 < j.nW → j.pW = some ⟨j.bW, j.oW, none⟩) (hs : j.nW ≤ 300) (h0 : 0 < j.nW) :
    Calls Try.prog 10 #[.agg (jobA j)] w (LayE w Ws j.nW j.more j.split) := by
  obtain ⟨pW, bW, oW, n, cW, v, more, split⟩ := j
  simp only at *
  obtain rfl := hp h0
  clear hp
  unfold jobA
  simp only
  obtain ⟨Jb', hJb⟩ : ∃ b, b = w.heap.size := ⟨_, rfl⟩
  obtain ⟨X, hX⟩ : ∃ X, X = w.alloc (.cells #[.slice (some ⟨bW, oW, none⟩) n cW, .slice v.psy v.nsy v.csy, .slice v.prl v.nrl v.crl, .int .u32 (more : Int), .int .i64 split] 26) := ⟨_, rfl⟩
  have hcX : Chg [] w X := by rw [hX]; exact (Chg.refl _ _).alloc _
  have hrX : X.row? Jb' = some #[.slice (some ⟨bW, oW, none⟩) n cW, .slice v.psy v.nsy v.csy, .slice v.prl v.nrl v.crl, .int .u32 (more : Int), .int .i64 split] := by rw [hX]; exact row_alloc_at _ _ _ _ hJb
  have HRX := Lib.hid hrX
  have HCX := Lib.hid hcX
  have HWX := Lib.hid (hW.keep hcX (by simp))
  have HWN := Lib.hid hWn
  have HS := Lib.hid hs
  have H0 := Lib.hid h0
  have HX := Lib.hid hX
  have HJB := Lib.hid hJb
  clear hW hWn hs h0 hrX hcX hX hJb
  go_enter Try.func10, Try.ntmps10
  go_upto_region 1 with (fail)
  rw [← HX.out, ← HJB.out]
  clear HX
  go_wp2_with fail
  refine (new_ok X).mono ?_
  rintro e w1 ⟨rfl, hw1⟩
  obtain ⟨mb, hmb⟩ : ∃ b, b = X.heap.size := ⟨_, rfl⟩
  have HM1 : Hid (w1.row? mb = some (mem fun _ => 0)) := Lib.hid (by rw [hw1, hmb]; exact new_row X)
  have HC1 : Hid (Chg [] X w1) := Lib.hid (by rw [hw1]; exact (Chg.refl _ _).alloc _)
  have HMB : Hid (X.heap.size ≤ mb) := Lib.hid (Nat.le_of_eq hmb.symm)
  have HJM : Hid (Jb' < mb) := Lib.hid (by rw [hmb]; exact row_lt HRX.out)
  rw [← hmb]
  clear hw1 hmb
  go_wp2_with fail
  refine (rnew_any w1).mono ?_
  rintro e w2 ⟨rp, rm, rfl, hr2, hc2, hp2, hm2⟩
  have HR2 := Lib.hid hr2
  have HC2 : Hid (Chg [] X w2) := Lib.hid (HC1.out.trans hc2)
  have HM2 : Hid (w2.row? mb = some (mem fun _ => 0)) := Lib.hid ((hc2.row (row_lt HM1.out) (by simp)).trans HM1.out)
  have HMR : Hid (mb < rp ∧ mb < rm) := Lib.hid ⟨Nat.lt_of_lt_of_le (row_lt HM1.out) hp2, Nat.lt_of_lt_of_le (row_lt HM1.out) hm2⟩
  have HRX2 : Hid (∀ E W, Chg E w2 W → Jb' ∉ E → W.row? Jb' = some #[.slice (some ⟨bW, oW, none⟩) n cW, .slice v.psy v.nsy v.csy, .slice v.prl v.nrl v.crl, .int .u32 (more : Int), .int .i64 split]) := Lib.hid fun E W hW hE => by
    have h2 := (HC2.out.row (row_lt HRX.out) (by simp)).trans HRX.out
    exact (hW.row (row_lt h2) hE).trans h2
  have HBW : Hid (∀ jx x, Ws[jx]? = some x → bW < X.heap.size) := Lib.hid fun jx x hx => by
    have := (HWX.out jx x hx).1
    exact World.block_lt_of_cell? _ _ this
  clear hr2 hc2 hp2 hm2
  have c0 : w2.cell? ⟨Jb', 0, none⟩ = some (.slice (some ⟨bW, oW, none⟩) n cW) := by rw [row_cell (HRX2.out [] w2 (Chg.refl _ _) (by simp))]; rfl
  go_wp2_with fail
  clear c0
  go_loopw [19] (fun i wr => ∃ (k N : Nat), k ≤ n ∧ i = .int .i64 (k : Int) ∧ N ≤ 4 * k ∧ Lay wr mb rp rm N (wordsF Ws k) ∧ Chg [mb, rm] w2 wr) (fun i _ => n - (intOf i).toNat)
  case atStart => exact ⟨0, 0, Nat.zero_le _, rfl, Nat.zero_le _, ⟨HM2.out, HR2.out, by have := HMR.out; omega, by have := HMR.out; omega⟩, Chg.refl _ _⟩
  case round =>
    obtain ⟨k, N, hk, rfl, hN, hl, hch⟩ := hrel
    have HK := Lib.hid hk
    have HN := Lib.hid hN
    have HL := Lib.hid hl
    have HCH := Lib.hid hch
    clear hk hN hl hch
    by_cases hkn : k < n
    · have HKN := Lib.hid hkn
      have dI : (k : Int) < (n : Int) := by omega
      obtain ⟨x, hx⟩ : ∃ x, Ws[k]? = some x := ⟨_, List.getElem?_eq_getElem (by have := HWN.out; omega)⟩
      obtain ⟨cx, lx⟩ := HWX.out k x hx
      have hbX := HBW.out k x hx
      have cW1 : wr.cell? ⟨bW, oW + k, none⟩ = some (.int .u32 (x : Int)) := cell_keep (cell_keep cx HC2.out (by simp)) HCH.out (by have := HMR.out; have := HMB.out; simp; omega)
      have HXD : Hid (Ws.getD k 0 = x) := Lib.hid (by rw [List.getD_eq_getElem?_getD, hx]; rfl)
      obtain ⟨k4, hk4⟩ : ∃ q, q = 4 * k := ⟨_, rfl⟩
      obtain ⟨q, hq⟩ : ∃ q, q = 2147487744 + k4 := ⟨_, rfl⟩
      have kb : k < 100000 := by have := HS.out; omega
      have k4b : k4 < 1000000 := by omega
      have E1 := Lib.hid (w64mul4 k k4 kb hk4)
      have E2 := Lib.hid (w64at k4 q k4b hq)
      have qb : q < 4294967296 := by omega
      have E3 := Lib.hid (u32mod q qb)
      have E4 := Lib.hid (w64id x (Nat.lt_trans lx (by decide))).1
      have HW : Hid (wrap64 ((k : Int) + 1) = ((k + 1 : Nat) : Int)) := Lib.hid (wrap1 k (by omega))
      have HQ : Hid (q = 2147483648 + (4096 + 4 * k)) := Lib.hid (by omega)
      have HLX := Lib.hid lx
      clear hx cx lx hbX hk4 hq kb k4b qb hkn
      have e1 := E1.out
      have e2 := E2.out
      have e3 := E3.out
      go_wp2_with fail
      refine (store_ok (wordsF Ws k) q (4096 + 4 * k) 4 mb x (by rw [HQ.out]; omega) (.inr (.inr rfl)) (by have := HKN.out; have := HS.out; omega) HLX.out wr HL.out.row).mono ?_
      rintro e w4 ⟨rfl, hr4, hc4⟩
      have HR4 : Hid (w4.row? mb = some (mem (wordsF Ws (k + 1)))) := Lib.hid (by rw [hr4, wordsF_succ, HXD.out])
      have HC4 := Lib.hid hc4
      have HRM4 : Hid (RamAt w4 rp rm N (wordsF Ws k)) := Lib.hid (HL.out.ram.keep hc4 (by have := HL.out.ne1; simp; omega) (by have := HL.out.ne2; simp; omega))
      clear hr4 hc4 cW1 e1 e2 e3
      have e1 := E1.out
      have e2 := E2.out
      have e4 := E4.out
      go_wp2_with fail
      refine (rstore_4 HRM4.out HQ.out (by have := HKN.out; have := HS.out; omega) HLX.out (by have := HN.out; have := HS.out; have := HKN.out; omega)).mono ?_
      rintro e w5 ⟨rfl, hr5, hc5⟩
      have HR5 : Hid (RamAt w5 rp rm (N + 4) (wordsF Ws (k + 1))) := Lib.hid (by rw [wordsF_succ, HXD.out]; exact hr5)
      have HC5 : Hid (Chg [mb, rm] w2 w5) := Lib.hid ((HCH.out.trans ⟨HC4.out.os, HC4.out.tape, HC4.out.output, HC4.out.size, fun i hi hE => HC4.out.block i hi (by simp at hE ⊢; exact hE.1)⟩).trans ⟨hc5.os, hc5.tape, hc5.output, hc5.size, fun i hi hE => hc5.block i hi (by simp at hE ⊢; exact hE.2)⟩)
      have HM5 : Hid (w5.row? mb = some (mem (wordsF Ws (k + 1)))) := Lib.hid ((hc5.row (row_lt HR4.out) (by have := HL.out.ne2; simp; omega)).trans HR4.out)
      clear hr5 hc5 e1 e2 e4
      go_wp2
      case roundEnd => exact ⟨⟨k + 1, N + 4, HKN.out, by rw [HW.out], by have := HN.out; omega, ⟨HM5.out, HR5.out, HL.out.ne1, HL.out.ne2⟩, HC5.out⟩, by rw [HW.out]; simp only [intOf, Int.toNat_natCast]; have := HKN.out; omega⟩
    · have dI : ¬ (k : Int) < (n : Int) := by omega
      obtain rfl : k = n := by have := HK.out; omega
      clear hkn
      obtain ⟨r, s, hr, -, hrs, hs2, ht, hkk, ht2⟩ := kN_facts split k H0.out
      obtain ⟨K, hK⟩ : ∃ K, K = kN split k := ⟨_, rfl⟩
      rw [← hK] at ht hkk ht2
      have hs300 := HS.out
      have h00 := H0.out
      obtain ⟨K4, hK4⟩ : ∃ q, q = 4 * K := ⟨_, rfl⟩
      obtain ⟨A4, hA4⟩ : ∃ q, q = 2147487744 + K4 := ⟨_, rfl⟩
      obtain ⟨D, hD⟩ : ∃ q, q = k - K := ⟨_, rfl⟩
      obtain ⟨D4, hD4⟩ : ∃ q, q = 4 * D := ⟨_, rfl⟩
      obtain ⟨bs, hbs⟩ : ∃ q, q = bsN more := ⟨_, rfl⟩
      have Kb : K < 100000 := by omega
      have Db : D < 100000 := by omega
      have kb : k < 100000 := by omega
      have K4b : K4 < 1000000 := by omega
      have hKk : K ≤ k := by omega
      have l1 : K4 < 4294967296 := by omega
      have l2 : A4 < 4294967296 := by omega
      have l3 : D4 < 4294967296 := by omega
      have sb1 : s < 8589934592 := by omega
      have kn0 : k ≠ 0 := by omega
      have kn1 : ¬ (k : Int) = 0 := by omega
      have G1 := Lib.hid hr
      have G1b : Hid (wrap64 r = r) := Lib.hid (by rw [← hr]; exact tmod_bd split k h00 (by omega))
      have G2 : Hid (wrap64 (r + (k : Int)) = (s : Int)) := Lib.hid (by rw [hrs]; exact (w64id s sb1).1)
      have G3 := Lib.hid ht
      have G3b := Lib.hid ht2
      have E1 := Lib.hid (w64mul4 K K4 Kb hK4)
      have E2 := Lib.hid (u32mod K4 l1)
      have E3 := Lib.hid (w64at K4 A4 K4b hA4)
      have E4 := Lib.hid (u32mod A4 l2)
      have E3c : Hid ((2147487744 + (K4 : Int)) % 4294967296 = (A4 : Int)) := Lib.hid (by omega)
      have E5 := Lib.hid (w64subN k K D kb hKk hD).1
      have E6 := Lib.hid (w64mul4 D D4 Db hD4)
      have E7 := Lib.hid (u32mod D4 l3)
      have F1 := Lib.hid (i64mul4 K K4 Kb hK4)
      have F3 := Lib.hid (i64at K4 A4 K4b hA4)
      have F5 := Lib.hid (w64subN k K D kb hKk hD).2
      have F6 := Lib.hid (i64mul4 D D4 Db hD4)
      have B1 : Hid (IntKind.u32.wrap (2147487744 + (more : Int)) = (bs : Int)) := Lib.hid (addw_wrap (x := 2147487744) (by rw [hbs]; rfl))
      obtain ⟨V, hV⟩ : ∃ V, V = wr.alloc (.cells #[.int .u32 2147487744, .int .u32 (K4 : Int), .int .i64 0, .int .u32 (A4 : Int), .int .u32 (D4 : Int), .int .i64 0] 52) := ⟨_, rfl⟩
      obtain ⟨Vb, hVb⟩ : ∃ b, b = wr.heap.size := ⟨_, rfl⟩
      have hcV : Chg [] wr V := by rw [hV]; exact (Chg.refl _ _).alloc _
      have hrV : V.row? Vb = some #[.int .u32 2147487744, .int .u32 (K4 : Int), .int .i64 0, .int .u32 (A4 : Int), .int .u32 (D4 : Int), .int .i64 0] := by rw [hV]; exact row_alloc_at _ _ _ _ hVb
      have hJw : wr.row? Jb' = some #[.slice (some ⟨bW, oW, none⟩) k cW, .slice v.psy v.nsy v.csy, .slice v.prl v.nrl v.crl, .int .u32 (more : Int), .int .i64 split] := HRX2.out _ wr HCH.out (by have := HJM.out; have := HMR.out; simp; omega)
      have hVbig : mb < Vb ∧ rm < Vb ∧ rp < Vb := by
        rw [hVb]
        exact ⟨row_lt HL.out.row, HL.out.ram.mlt, row_lt HL.out.ram.row⟩
      have c0 : wr.cell? ⟨Jb', 0, none⟩ = some (.slice (some ⟨bW, oW, none⟩) k cW) := by rw [row_cell hJw]; rfl
      have c4 : wr.cell? ⟨Jb', 4, none⟩ = some (.int .i64 split) := by rw [row_cell hJw]; rfl
      have C3 : Hid (∀ W, Chg [] V W → W.cell? ⟨Jb', 3, none⟩ = some (.int .u32 (more : Int))) := Lib.hid fun W hW => by
        have h2 := (hcV.row (row_lt hJw) (by simp)).trans hJw
        rw [row_cell ((hW.row (row_lt h2) (by simp)).trans h2)]; rfl
      have HRV := Lib.hid hrV
      have HCV := Lib.hid hcV
      have HV := Lib.hid hV
      have HVB := Lib.hid hVb
      have HBIG := Lib.hid hVbig
      have HKE := Lib.hid hK
      have HBS := Lib.hid hbs
      have HK4 := Lib.hid hK4
      have HA4 := Lib.hid hA4
      have HD4 : Hid (D4 = 4 * (k - K)) := Lib.hid (by rw [hD4, hD])
      have HKK := Lib.hid hkk
      clear hr hrs hs2 ht hkk ht2 hK hs300 h00 hK4 hA4 hD hD4 hbs Kb Db kb K4b hKk l1 l2 l3 sb1 hV hVb hcV hrV hJw hVbig
      have g1 := G1.out
      have g1b := G1b.out
      have g2 := G2.out
      have g3 := G3.out
      have g3b := G3b.out
      go_upto_region 10 with (fail)
      clear g1 g1b g2 g3 g3b c0 c4 kn0 kn1
      have e1 := E1.out
      have e2 := E2.out
      have e3 := E3.out
      have e4 := E4.out
      have e3c := E3c.out
      have e5 := E5.out
      have e6 := E6.out
      have e7 := E7.out
      go_upto_region 11 with (fail)
      rw [← HV.out, ← HVB.out]
      clear HV HVB e2 e4 e7 e3c
      have f1 := F1.out
      have f3 := F3.out
      have f5 := F5.out
      have f6 := F6.out
      have b1 := B1.out
      obtain ⟨Y, hY⟩ : ∃ Y, Y = (V.alloc (.cells #[.int .i64 2147487744, .int .i64 (K4 : Int), .int .i64 (A4 : Int), .int .i64 (D4 : Int)] 62)).drew := ⟨_, rfl⟩
      obtain ⟨Yb, hYb⟩ : ∃ b, b = V.heap.size := ⟨_, rfl⟩
      have HCY : Hid (Chg [] V Y) := Lib.hid (by rw [hY]; exact ((Chg.refl [] V).alloc _).drew)
      have HRY : Hid (Y.row? Yb = some #[.int .i64 2147487744, .int .i64 (K4 : Int), .int .i64 (A4 : Int), .int .i64 (D4 : Int)]) := Lib.hid (by rw [hY, row_drew]; exact row_alloc_at _ _ _ _ hYb)
      have HYV : Hid (V.heap.size ≤ Yb) := Lib.hid (Nat.le_of_eq hYb.symm)
      have HY := Lib.hid hY
      have HYB := Lib.hid hYb
      clear hY hYb
      refine wp_region_C (fun w' => w'.cell? ⟨Jb', 3, none⟩ = some (.int .u32 (more : Int))) [(0, 0), (1, 0), (2, 0), (3, 0), (4, 0), (5, 0), (6, 0), (7, 0), (8, 0), (9, 0), (10, 0), (11, 0), (12, 0), (13, 0), (15, 0), (16, 1), (17, 0), (18, 0), (19, 0), (20, 0), (14, 2), (21, 0), (22, 0)] rfl (by kernel_rfl) ?hSA ?hTA
      case hSA => exact C3.out _ (Chg.refl _ _).drew
      refine wpT_pureD (v := ?_) (some 65) rfl rfl (by rfl) (fun w' => ?_) ?_
      rotate_left
      · (go_simp; try with_reducible rfl)
      try simp only [Act.put, List.setIfInBounds_toArray, List.set_cons_zero, List.set_cons_succ]
      refine wpT_pureD (v := ?_) (some 66) rfl rfl (by rfl) (fun w' => ?_) ?_
      rotate_left
      · (go_simp; try with_reducible rfl)
      try simp only [Act.put, List.setIfInBounds_toArray, List.set_cons_zero, List.set_cons_succ]
      refine wpT_pureD (v := ?_) (some 67) rfl rfl (by rfl) (fun w' => ?_) ?_
      rotate_left
      · (go_simp; try with_reducible rfl)
      try simp only [Act.put, List.setIfInBounds_toArray, List.set_cons_zero, List.set_cons_succ]
      refine wpT_pureD (v := ?_) (some 68) rfl rfl (by rfl) (fun w' => ?_) ?_
      rotate_left
      · (go_simp; try with_reducible rfl)
      try simp only [Act.put, List.setIfInBounds_toArray, List.set_cons_zero, List.set_cons_succ]
      refine wpT_pureD (v := ?_) (some 69) rfl rfl (by rfl) (fun w' => ?_) ?_
      rotate_left
      · (go_simp; try with_reducible rfl)
      try simp only [Act.put, List.setIfInBounds_toArray, List.set_cons_zero, List.set_cons_succ]
      refine wpT_pureD (v := ?_) (some 70) rfl rfl (by rfl) (fun w' => ?_) ?_
      rotate_left
      · (go_simp; try with_reducible rfl)
      try simp only [Act.put, List.setIfInBounds_toArray, List.set_cons_zero, List.set_cons_succ]
      refine wpT_pureD (v := ?_) (some 71) rfl rfl (by rfl) (fun w' => ?_) ?_
      rotate_left
      · (go_simp; try with_reducible rfl)
      try simp only [Act.put, List.setIfInBounds_toArray, List.set_cons_zero, List.set_cons_succ]
      refine wpT_pureD (v := ?_) (some 72) rfl rfl (by rfl) (fun w' => ?_) ?_
      rotate_left
      · (go_simp; try with_reducible rfl)
      try simp only [Act.put, List.setIfInBounds_toArray, List.set_cons_zero, List.set_cons_succ]
      refine wpT_pureD (v := ?_) (some 73) rfl rfl (by rfl) (fun w' => ?_) ?_
      rotate_left
      · (go_simp; try with_reducible rfl)
      try simp only [Act.put, List.setIfInBounds_toArray, List.set_cons_zero, List.set_cons_succ]
      refine wpT_pureD (v := ?_) (some 74) rfl rfl (by rfl) (fun w' => ?_) ?_
      rotate_left
      · (go_simp; try with_reducible rfl)
      try simp only [Act.put, List.setIfInBounds_toArray, List.set_cons_zero, List.set_cons_succ]
      refine wpT_pureD (v := ?_) (some 75) rfl rfl (by rfl) (fun w' => ?_) ?_
      rotate_left
      · (go_simp; try with_reducible rfl)
      try simp only [Act.put, List.setIfInBounds_toArray, List.set_cons_zero, List.set_cons_succ]
      refine wpT_pureD (v := ?_) (some 76) rfl rfl (by rfl) (fun w' => ?_) ?_
      rotate_left
      · (go_simp; try with_reducible rfl)
      try simp only [Act.put, List.setIfInBounds_toArray, List.set_cons_zero, List.set_cons_succ]
      refine wpT_pureD (v := ?_) (some 77) rfl rfl (by rfl) (fun w' => ?_) ?_
      rotate_left
      · (go_simp; try with_reducible rfl)
      try simp only [Act.put, List.setIfInBounds_toArray, List.set_cons_zero, List.set_cons_succ]
      refine wpT_pureD (v := ?_) (some 78) rfl rfl (by rfl) (fun w' => ?_) ?_
      rotate_left
      · (go_simp; try with_reducible rfl)
      try simp only [Act.put, List.setIfInBounds_toArray, List.set_cons_zero, List.set_cons_succ]
      refine wpT_pureD (v := ?_) (some 80) rfl rfl (by rfl) (fun w' => ?_) ?_
      rotate_left
      · (go_simp; try with_reducible rfl)
      try simp only [Act.put, List.setIfInBounds_toArray, List.set_cons_zero, List.set_cons_succ]
      refine wpT_readD (v := ?_) (some 81) rfl rfl (by rfl) (fun w' hw => ?_) ?_
      rotate_left
      · (obtain q0 := hw; go_simp; try with_reducible rfl)
      try simp only [Act.put, List.setIfInBounds_toArray, List.set_cons_zero, List.set_cons_succ]
      refine wpT_pureD (v := ?_) (some 82) rfl rfl (by rfl) (fun w' => ?_) ?_
      rotate_left
      · (go_simp; try with_reducible rfl)
      try simp only [Act.put, List.setIfInBounds_toArray, List.set_cons_zero, List.set_cons_succ]
      refine wpT_pureD (v := ?_) (some 2) rfl rfl (by rfl) (fun w' => ?_) ?_
      rotate_left
      · (go_simp; try with_reducible rfl)
      try simp only [Act.put, List.setIfInBounds_toArray, List.set_cons_zero, List.set_cons_succ]
      refine wpT_pureD (v := ?_) (some 3) rfl rfl (by rfl) (fun w' => ?_) ?_
      rotate_left
      · (go_simp; try with_reducible rfl)
      try simp only [Act.put, List.setIfInBounds_toArray, List.set_cons_zero, List.set_cons_succ]
      refine wpT_pureD (v := ?_) (some 4) rfl rfl (by rfl) (fun w' => ?_) ?_
      rotate_left
      · (go_simp; try with_reducible rfl)
      try simp only [Act.put, List.setIfInBounds_toArray, List.set_cons_zero, List.set_cons_succ]
      refine wpT_eff rfl (by rfl) (fun K hK => ?_)
      go_wp2_with fail
      trace_state
      rw [← HY.out, ← HYB.out]
      refine hK _ _ (C3.out _ HCY.out) ?_
      clear hK K
      refine wpT_pureD (v := ?_) (some 5) rfl rfl (by rfl) (fun w' => ?_) ?_
      rotate_left
      · (go_simp; try with_reducible rfl)
      try simp only [Act.put, List.setIfInBounds_toArray, List.set_cons_zero, List.set_cons_succ]
      refine wpT_pureD (v := ?_) (some 6) rfl rfl (by rfl) (fun w' => ?_) ?_
      rotate_left
      · (go_simp; try with_reducible rfl)
      try simp only [Act.put, List.setIfInBounds_toArray, List.set_cons_zero, List.set_cons_succ]
      refine wpT_end ?_
      clear e1 e3 e5 e6 f1 f3 f5 f6 b1
      go_wp2_with fail
      ((try simp only [Exit.inBlock, Exit.then]); refine bodyPost_ret (results_tmp5 rfl _ _ _) rfl ?_)
      refine ⟨mb, rp, rm, Vb, Yb, N, ?_, ?_⟩
      · rw [← HBS.out]; rfl
      · have HVY := (HCY.out.row (row_lt HRV.out) (by simp)).trans HRV.out
        have hb := HBIG.out
        have hvl := row_lt HRV.out
        have hyv := HYV.out
        have hmb := HMB.out
        have hcx := HCX.out.size
        have hmr := HMR.out
        rw [← HKE.out]
        refine ⟨(HL.out.keep HCV.out).keep HCY.out, ?_, ?_, ?_, ⟨by omega, by omega, by omega, by omega, by omega⟩, ⟨by omega, by omega, by omega, by omega⟩, HN.out, HKK.out⟩
        · rw [HVY]
          show _ = some #[Value.int .u32 ((2147487744 : Nat) : Int), .int .u32 ((4 * K : Nat) : Int), .int .i64 0, .int .u32 ((2147487744 + 4 * K : Nat) : Int), .int .u32 ((4 * (k - K) : Nat) : Int), .int .i64 0]
          rw [HA4.out, HD4.out, HK4.out]
          rfl
        · rw [HRY.out]
          show _ = some #[Value.int .i64 ((2147487744 : Nat) : Int), .int .i64 ((4 * K : Nat) : Int), .int .i64 ((2147487744 + 4 * K : Nat) : Int), .int .i64 ((4 * (k - K) : Nat) : Int)]
          rw [HA4.out, HD4.out, HK4.out]
          rfl
        · have h1 : Chg [mb, rm] X Y := (⟨HC2.out.os, HC2.out.tape, HC2.out.output, HC2.out.size, fun i hi _ => HC2.out.block i hi (by simp)⟩ : Chg [mb, rm] X w2).trans (HCH.out.trans ((chg_any HCV.out).trans (chg_any HCY.out)))
          have h2 := HCX.out
          exact ⟨h1.os.trans h2.os, h1.tape.trans h2.tape, h1.output.trans h2.output, Nat.le_trans h2.size h1.size, fun i hi _ => (h1.block i (Nat.lt_of_lt_of_le hi h2.size) (by simp; omega)).trans (h2.block i hi (by simp))⟩
end Go.Proofs.L
