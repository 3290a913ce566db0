/- Proved here: lemmas and contracts (Rr5) for the laws of this seat, for all values of the stated types; no further condition. -/
import Derived.Test.YtjiiojbenbldlaaRr4
open Go Go.RowKit Go.Lib
namespace Go.Proofs.L
attribute [local irreducible] wpT
/-! the reference's Apply -/
theorem setU_eq (w x : Nat) (hx : x < 4294967296) : setU w (upN x) = w % 4096 + upN x := by
  have h1 := gU w (upN x) (upN_lt x)
  have h2 := kU w (upN x)
  have h3 := setU_lt w (upN x) (upN_lt x)
  have h4 : upN x % 4096 = 0 := by unfold upN; omega
  generalize setU w (upN x) = S at *
  generalize upN x = u at *
  omega
theorem newW_lt (L w v : Nat) (hv : v < 4294967296) : newW L w v < 4294967296 := by
  unfold newW
  split
  · exact hv
  · split
    · exact setU_lt _ _ (upN_lt _)
    · split
      · exact setI_lt _ _
      · split
        · exact setS_lt _ _
        · split
          · exact setB_lt _ _
          · exact setJ_lt _ _
theorem applyN_step (bias : Nat) (Rs : List Rl) (Ys : List Nat) (Ss : List Sp) (r : Rl) (L : List Rl) (f : Nat → Nat) : applyN bias Rs Ys Ss (r :: L) f = if (oneN bias Rs Ys Ss f r).1 ≠ 0 then oneN bias Rs Ys Ss f r else applyN bias Rs Ys Ss L (oneN bias Rs Ys Ss f r).2 := rfl
theorem refMem_lt {f : Nat → Nat} (hf : ∀ i, f i < 256) (p : Nat) (ty : Int) (L v : Nat) : ∀ i, refMem f p ty L v i < 256 := by
  intro i
  unfold refMem
  split
  · exact stN_lt _ (fun j => stN_lt _ hf _ _ _ j) _ _ _ _
  · exact stN_lt _ hf _ _ _ _
structure RA (w : World) (v : Jv) (Rs : List Rl) (Ys : List Nat) (Ss : List Sp) (Fb bS oS : Nat) : Prop where
  file : FileOk w v Rs Ys
  row : w.row? Fb = some (fileA v)
  sp : RsAt w bS oS Ss
theorem RA.keep {w w' : World} {v : Jv} {Rs : List Rl} {Ys : List Nat} {Ss : List Sp} {Fb bS oS rm : Nat} (h : RA w v Rs Ys Ss Fb bS oS) (hc : Chg [rm] w w') (h1 : v.brl ≠ rm) (h2 : v.bsy ≠ rm) (h3 : Fb ≠ rm) (h4 : bS ≠ rm) : RA w' v Rs Ys Ss Fb bS oS :=
  ⟨h.file.keep hc (by simpa using h1) (by simpa using h2), (hc.row (row_lt h.row) (by simpa using h3)).trans h.row, h.sp.keep hc (by simpa using h4)⟩
def RapQ (w : World) (rp rm : Nat) (R : Nat × (Nat → Nat)) (N : Nat) (e : Ending) (w' : World) : Prop := ∃ n', e = .returned (.int .i64 (R.1 : Int)) ∧ RamAt w' rp rm n' R.2 ∧ n' ≤ N ∧ Chg [rm] w w'
set_option maxRecDepth 100000 in
set_option maxHeartbeats 64000000 in
theorem rapply_any {w : World} {v : Jv} {Rs : List Rl} {Ys : List Nat} {Ss : List Sp} {rp rm N : Nat} {f : Nat → Nat} {P : Option Addr} {bS oS ns cS bias : Nat} (hF : FileOk w v Rs Ys) (hR : RamAt w rp rm N f) (hf : ∀ i, f i < 256) (hN : N < 100000000) (hS : RsAt w bS oS Ss) (hSn : Ss.length = ns) (hSp : 0 < ns → P = some ⟨bS, oS, none⟩) (hns : ns < 1000)
    (hSs : ∀ s ∈ Ss, 2147483648 ≤ s.st ∧ s.st + s.sz ≤ 2147549184) (hb : bias < 4294967296) (hnr : v.nrl < 1000) (a1 : v.brl ≠ rm) (a2 : v.bsy ≠ rm) (a4 : bS ≠ rm) :
    Calls Try.prog 19 #[.pointer (some ⟨rp, 0, none⟩), .agg (fileA v), .int .i64 (bias : Int), .slice P ns cS] w (RapQ w rp rm (applyN bias Rs Ys Ss Rs f) (N + 8 * v.nrl)) := by
  obtain ⟨Fb, hFb⟩ : ∃ b, b = w.heap.size := ⟨_, rfl⟩
  obtain ⟨X, hX⟩ : ∃ X, X = w.alloc (.cells #[v.e, v.sg, .slice v.prl v.nrl v.crl, .slice v.psy v.nsy v.csy] 30) := ⟨_, rfl⟩
  have hcX : Chg [] w X := by rw [hX]; exact (Chg.refl _ _).alloc _
  have hrF : X.row? Fb = some (fileA v) := by rw [hX]; exact row_alloc_at _ _ _ _ hFb
  have A3 : Hid (Fb ≠ rm) := Lib.hid (by have := hR.mlt; omega)
  have A1 := Lib.hid a1
  have A2 := Lib.hid a2
  have A4 := Lib.hid a4
  have HRA : Hid (∀ W, Chg [rm] X W → RA W v Rs Ys Ss Fb bS oS) := Lib.hid fun W hW => RA.keep ⟨hF.keep hcX (by simp) (by simp), hrF, hS.keep hcX (by simp)⟩ hW a1 a2 A3.out a4
  have HRX : Hid (RamAt X rp rm N f) := Lib.hid (hR.keep hcX (by simp) (by simp))
  have HCX := Lib.hid hcX
  have HFF := Lib.hid hf
  have HN := Lib.hid hN
  have HSN := Lib.hid hSn
  have HSP := Lib.hid hSp
  have HNS := Lib.hid hns
  have HSS := Lib.hid hSs
  have HB := Lib.hid hb
  have HNR := Lib.hid hnr
  have HX := Lib.hid hX
  have HFB := Lib.hid hFb
  clear hF hR hf hN hS hSn hSp hns hSs hb hnr a1 a2 a4 hFb hX hcX hrF
  unfold fileA
  go_enter Try.func19, Try.ntmps19
  go_upto_block 0 with (fail)
  rw [← HX.out, ← HFB.out]
  clear HX HFB
  go_wp2_with fail
  go_loopw [9] (fun i wr => ∃ (j : Nat) (g : Nat → Nat) (n' : Nat), j ≤ v.nrl ∧ i = .int .i64 (j : Int) ∧ applyN bias Rs Ys Ss (Rs.drop j) g = applyN bias Rs Ys Ss Rs f ∧ RamAt wr rp rm n' g ∧ n' ≤ N + 8 * j ∧ (∀ i, g i < 256) ∧ Chg [rm] X wr) (fun i _ => v.nrl - (intOf i).toNat)
  case atStart => exact ⟨0, f, N, Nat.zero_le _, rfl, rfl, HRX.out, Nat.le_refl _, HFF.out, Chg.refl _ _⟩
  case round =>
    obtain ⟨j, g, n', hj, rfl, hap, hram, hn', hg, hch⟩ := hrel
    have HJ := Lib.hid hj
    have HAP := Lib.hid hap
    have HRAM := Lib.hid hram
    have HN' := Lib.hid hn'
    have HG := Lib.hid hg
    have HCH := Lib.hid hch
    clear hj hap hram hn' hg hch
    have cF : wr.cell? ⟨Fb, 2, none⟩ = some (.slice v.prl v.nrl v.crl) := by rw [row_cell (HRA.out _ HCH.out).row]; rfl
    by_cases hjn : j < v.nrl
    · have HJN := Lib.hid hjn
      have dI : (j : Int) < (v.nrl : Int) := by omega
      have hlen : j < Rs.length := by have := (HRA.out _ HCH.out).file.rn; omega
      obtain ⟨r, hr⟩ : ∃ r, r = Rs[j] := ⟨_, rfl⟩
      have hrj : Rs[j]? = some r := by rw [hr]; exact List.getElem?_eq_getElem hlen
      obtain ⟨hsc, hst, hsz⟩ := (HRA.out _ HCH.out).file.rl j r hrj
      have HAP2 : Hid (applyN bias Rs Ys Ss Rs f = if (oneN bias Rs Ys Ss g r).1 ≠ 0 then oneN bias Rs Ys Ss g r else applyN bias Rs Ys Ss (Rs.drop (j + 1)) (oneN bias Rs Ys Ss g r).2) := Lib.hid (by rw [← HAP.out, List.drop_eq_getElem_cons hlen, ← hr]; rfl)
      obtain ⟨PP, hPP⟩ : ∃ P, P = v.prl := ⟨_, rfl⟩
      rw [← hPP] at cF
      have hpe := (HRA.out _ HCH.out).file.rp (by omega)
      rw [← hPP] at hpe
      subst hpe
      have HSC : Hid (∀ i u, (RlC r)[i]? = some u → wr.cell? ⟨v.brl, v.orl + j * 4 + i, none⟩ = some u) := Lib.hid hsc
      have HST := Lib.hid hst
      have HSZ := Lib.hid hsz
      have HW : Hid (wrap64 ((j : Int) + 1) = ((j + 1 : Nat) : Int)) := Lib.hid (wrap1 j (by have := HNR.out; omega))
      obtain ⟨Z, hZ⟩ : ∃ Z, Z = wr.alloc (.cells (RlC r).toArray 32) := ⟨_, rfl⟩
      obtain ⟨B, hB⟩ : ∃ B, B = wr.heap.size := ⟨_, rfl⟩
      have hrZ : Z.row? B = some (RlC r).toArray := by rw [hZ, hB]; exact row_alloc_at _ _ _ _ rfl
      have hcZ : Chg [] wr Z := by rw [hZ]; exact (Chg.refl _ _).alloc _
      have HCZ : Hid (Chg [rm] X Z) := Lib.hid (HCH.out.trans (chg_any hcZ))
      have A5 : Hid (B ≠ rm) := Lib.hid (by have := HRAM.out.mlt; omega)
      have HRZ : Hid (∀ W, Chg [rm] Z W → W.row? B = some (RlC r).toArray) := Lib.hid fun W hW => (hW.row (row_lt hrZ) (by simpa using A5.out)).trans hrZ
      have HRAZ : Hid (∀ W, Chg [rm] Z W → RA W v Rs Ys Ss Fb bS oS) := Lib.hid fun W hW => HRA.out W (HCZ.out.trans hW)
      have HRMZ : Hid (RamAt Z rp rm n' g) := Lib.hid (HRAM.out.keep hcZ (by simp) (by simp))
      obtain ⟨ra, ty, sy, add⟩ := r
      have HQ : Hid (∀ W, Chg [rm] Z W → W.cell? ⟨B, 0, none⟩ = some (.int .u32 (ra : Int)) ∧ W.cell? ⟨B, 1, none⟩ = some (.int .i64 ty)) := Lib.hid fun W hW => ⟨by rw [row_cell (HRZ.out W hW)]; rfl, by rw [row_cell (HRZ.out W hW)]; rfl⟩
      have HZ := Lib.hid hZ
      have HB2 := Lib.hid hB
      obtain ⟨q, hq⟩ : ∃ q, q = bias + ra := ⟨_, rfl⟩
      obtain ⟨p, hp⟩ : ∃ p, p = (bias + ra) % 4294967296 := ⟨_, rfl⟩
      have hra' : ra < 8589934592 := Nat.lt_trans HST.out (by decide)
      have hbi : bias < 8589934592 := Nat.lt_trans HB.out (by decide)
      have HV1 := Lib.hid (w64id ra hra').1
      have HV2 := Lib.hid (w64add bias ra q hbi hra' hq).1
      have HLQ : Hid (lowN (q : Int) = p) := Lib.hid (by rw [lowN_nat, hp, hq])
      obtain ⟨my, hmy⟩ : ∃ m, m = mayN bias Ss ⟨ra, ty, sy, add⟩ := ⟨_, rfl⟩
      have HMY := Lib.hid hmy
      have HPE := Lib.hid hp
      clear hr hrj hlen hsc hst hsz hZ hB hrZ hcZ hjn hPP hq hp hra' hbi hmy
      go_upto_region 5 with (first | (refine wpList_load_part a32 (RlC ⟨ra, ty, sy, add⟩) rfl _ rfl rfl rfl HSC.out ?_) | (refine wpList_store_new a32 _ _ rfl rfl rfl rfl rfl rfl rfl rfl ?_))
      rw [← HZ.out, ← HB2.out]
      clear HZ HB2 dI cF HSC
      go_wp2_with (first | (refine wpList_load_part a32 (RlC ⟨ra, ty, sy, add⟩) rfl _ rfl rfl rfl (fun j u hu => by rw [Nat.zero_add, row_cell (HRZ.out _ (Chg.refl _ _))]; simpa using hu) ?_) | fail)
      refine (rmay_any (HRAZ.out _ (Chg.refl _ _)).sp HSN.out HSP.out HNS.out bias ⟨ra, ty, sy, add⟩ HB.out HST.out).mono ?_
      rintro e w2 ⟨rfl, hc2⟩
      have HC2 : Hid (Chg [rm] Z w2) := Lib.hid (chg_any hc2)
      have HR2 : Hid (RamAt w2 rp rm n' g) := Lib.hid (HRMZ.out.keep hc2 (by simp) (by simp))
      rw [← HMY.out]
      clear hc2
      cases my with
      | false =>
        have HF1 : Hid (applyN bias Rs Ys Ss Rs f = (13, g)) := Lib.hid (by rw [HAP2.out, may_false Rs Ys g HMY.out.symm, if_pos (show (13 : Nat) ≠ 0 by decide)])
        go_wp2
        go_ret
        exact ⟨n', by rw [HF1.out]; rfl, by rw [HF1.out]; exact HR2.out, by have := HN'.out; have := HJN.out; omega, (chg_any HCX.out).trans (HCZ.out.trans HC2.out)⟩
      | true =>
        have HONE := Lib.hid (one_ref Rs Ys g HSS.out HMY.out.symm)
        obtain ⟨ms, mw, -, -⟩ := may_true HMY.out.symm
        have hwr := within_ram HSS.out mw
        have hs4 : 4 ≤ sizeN ty := by
          rcases size_cases ms with rfl | rfl | rfl | rfl | rfl | rfl | rfl | rfl | rfl | rfl | rfl | rfl <;> decide
        simp only [← HPE.out] at hwr HONE
        have HPR : Hid (2147483648 ≤ p ∧ p + 4 ≤ 2147549184) := Lib.hid (by omega)
        have HPR8 : Hid (ty = 18 ∨ ty = 19 → p + 8 ≤ 2147549184) := Lib.hid (by
          intro h
          have : sizeN ty = 8 := by rcases h with rfl | rfl <;> decide
          omega)
        have HVF := Lib.hid (val_facts (Rs := Rs) (Ys := Ys) (r := ⟨ra, ty, sy, add⟩) ms HB.out)
        have HMS := Lib.hid ms
        obtain ⟨o, ho⟩ : ∃ o, o = p - rb := ⟨_, rfl⟩
        have HPO : Hid (p = 2147483648 + o) := Lib.hid (by have := HPR.out.1; rw [ho]; unfold rb; omega)
        have HO := Lib.hid ho
        clear ms mw hwr hs4 ho
        have c0 := (HQ.out _ HC2.out).1
        have v1 := HV1.out
        have v2 := HV2.out
        go_wp2_with fail
        refine (low_any (q : Int) w2).mono ?_
        rintro e w' ⟨rfl, hw⟩
        obtain rfl := hw.symm
        clear hw
        rw [HLQ.out]
        clear c0 v1 v2
        go_wp2_with fail
        refine (rload_4 HR2.out HG.out HPO.out (by have := HPR.out.2; have := HPO.out; omega)).mono ?_
        rintro e w3 ⟨rfl, hc3⟩
        have HC3 : Hid (Chg [rm] Z w3) := Lib.hid (HC2.out.trans (chg_any hc3))
        have HR3 : Hid (RamAt w3 rp rm n' g) := Lib.hid (HR2.out.keep hc3 (by simp) (by simp))
        clear hc3
        obtain ⟨ww, hww⟩ : ∃ x, x = leN g o 4 := ⟨_, rfl⟩
        have hwl : ww < 4294967296 := by rw [hww]; exact leN_lt g HG.out o 4
        rw [← hww]
        have HWW := Lib.hid hww
        have HWL := Lib.hid hwl
        clear hww hwl
        go_wp2_with (first | (refine wpList_load_part a30 [v.e, v.sg, .slice v.prl v.nrl v.crl, .slice v.psy v.nsy v.csy] rfl _ rfl rfl rfl (fun j u hu => by rw [Nat.zero_add, row_cell (HRAZ.out _ HC3.out).row]; simpa [fileA] using hu) ?_) | (refine wpList_load_part a32 (RlC ⟨ra, ty, sy, add⟩) rfl _ rfl rfl rfl (fun j u hu => by rw [Nat.zero_add, row_cell (HRZ.out _ HC3.out)]; simpa using hu) ?_) | fail)
        refine (rval_any (HRAZ.out _ HC3.out).file (by have := HNR.out; omega) bias ⟨ra, ty, sy, add⟩ HB.out HST.out HSZ.out HMS.out).mono ?_
        rintro e w4 ⟨rfl, hc4⟩
        have HC4 : Hid (Chg [rm] Z w4) := Lib.hid (HC3.out.trans (chg_any hc4))
        have HR4 : Hid (RamAt w4 rp rm n' g) := Lib.hid (HR3.out.keep hc4 (by simp) (by simp))
        clear hc4
        obtain ⟨⟨vv, L, ee⟩, hval⟩ : ∃ t, t = valN bias Rs Ys ⟨ra, ty, sy, add⟩ := ⟨_, rfl⟩
        rw [← hval] at HONE HVF ⊢
        clear hval
        simp only at HONE HVF ⊢
        by_cases he : ee = 0
        · subst he
          have HAP3 : Hid (applyN bias Rs Ys Ss Rs f = applyN bias Rs Ys Ss (Rs.drop (j + 1)) (refMem g p ty L vv)) := Lib.hid (by rw [HAP2.out, HONE.out, if_neg (fun h => h rfl), if_neg (fun h => h rfl)])
          have HVL := Lib.hid HVF.out.1
          have hL := HVF.out.2.2 rfl
          have HMB := Lib.hid (refMem_lt HG.out p ty L vv)
          rcases hL with ⟨rfl, rfl | rfl⟩ | ⟨t18, t19, hL⟩
          · rw [show strB 85 = ⟨#[85]⟩ from rfl]
            obtain ⟨t, ht⟩ : ∃ t, t = ww % 4096 := ⟨_, rfl⟩
            have e1 : (ww : Int).tmod 4096 = (t : Int) := by rw [Int.tmod_eq_emod_of_nonneg (by omega)]; omega
            have e2 : (ww : Int) % 4096 = (t : Int) := by omega
            obtain ⟨u, hu⟩ : ∃ u, u = upN vv := ⟨_, rfl⟩
            obtain ⟨nw, hnw⟩ : ∃ x, x = newW 85 ww vv := ⟨_, rfl⟩
            have hn2 : nw = t + u := by rw [hnw, ht, hu]; exact setU_eq ww vv HVL.out
            have hul : u < 8589934592 := by rw [hu]; exact Nat.lt_trans (upN_lt vv) (by decide)
            have htl : t < 8589934592 := by omega
            have WN := Lib.hid (w64add t u nw htl hul hn2).1
            have HU := Lib.hid hu
            clear ht hu hn2 hul htl
            go_wp2_with fail
            refine (refUpper_any vv HVL.out w4).mono ?_
            rintro e w' ⟨rfl, hw⟩
            obtain rfl := hw.symm
            clear hw
            rw [← HU.out]
            have wn := WN.out
            have HCS := HC4
            have HRS := HR4
            have hnl : nw < 4294967296 := by rw [hnw]; exact newW_lt _ _ _ HVL.out
            have HNW := Lib.hid hnw
            have HNL := Lib.hid hnl
            clear hnw hnl
            go_wp2_with fail
            refine (rstore_4 HRS.out HPO.out (by have := HPR.out.2; have := HPO.out; omega) HNL.out (by have := HN'.out; have := HN.out; have := HJN.out; have := HNR.out; omega)).mono ?_
            rintro e w7 ⟨rfl, hr7, hc7⟩
            have HR7 := Lib.hid hr7
            have HC7 : Hid (Chg [rm] Z w7) := Lib.hid (HCS.out.trans hc7)
            have c7 := (HQ.out _ HC7.out).2
            clear hr7 hc7
            clear wn e1 e2
            have HP8 := HPR8.out (by decide)
            obtain ⟨p4, hp4⟩ : ∃ x, x = p + 4 := ⟨_, rfl⟩
            have WP4 : Hid (wrap64 ((p : Int) + 4) = (p4 : Int)) := Lib.hid (w64add p 4 p4 (by have := HPR.out.2; omega) (by decide) hp4).1
            have HP4 : Hid (p4 = 2147483648 + (o + 4)) := Lib.hid (by rw [hp4]; have := HPO.out; omega)
            have HO4 : Hid (o + 4 + 4 ≤ 65536) := Lib.hid (by have := HPO.out; omega)
            have HG7 : Hid (∀ i, stN g o nw 4 i < 256) := Lib.hid (fun i => stN_lt _ HG.out _ _ _ i)
            obtain ⟨w8, hw8⟩ : ∃ x, x = leN g (o + 4) 4 := ⟨_, rfl⟩
            have hle : leN (stN g o nw 4) (o + 4) 4 = w8 := by rw [leN_apart _ _ _ _ (by omega), hw8]
            have HW8L : Hid (w8 < 4294967296) := Lib.hid (by rw [hw8]; exact leN_lt g HG.out (o + 4) 4)
            have HLE := Lib.hid hle
            have HW8 := Lib.hid hw8
            clear HP8 hp4 hw8 hle
            have wp4 := WP4.out
            go_wp2_with fail
            refine (rload_4 HR7.out HG7.out HP4.out HO4.out).mono ?_
            rintro e w9 ⟨rfl, hc9⟩
            rw [HLE.out]
            have HC9 : Hid (Chg [rm] Z w9) := Lib.hid (HC7.out.trans (chg_any hc9))
            have HR9 : Hid (RamAt w9 rp rm (n' + 4) (stN g o nw 4)) := Lib.hid (HR7.out.keep hc9 (by simp) (by simp))
            clear hc9 c7
            go_wp2_with fail
            refine (rset_I w8 vv HW8L.out HVL.out w9).mono ?_
            rintro e w10 ⟨rfl, hc10⟩
            have HC10 : Hid (Chg [rm] Z w10) := Lib.hid (HC9.out.trans (chg_any hc10))
            have HR10 : Hid (RamAt w10 rp rm (n' + 4) (stN g o nw 4)) := Lib.hid (HR9.out.keep hc10 (by simp) (by simp))
            clear hc10
            obtain ⟨s8, hs8⟩ : ∃ x, x = setI w8 vv := ⟨_, rfl⟩
            have hs8l : s8 < 4294967296 := by rw [hs8]; exact setI_lt _ _
            rw [← hs8]
            have HS8 := Lib.hid hs8
            have HS8L := Lib.hid hs8l
            clear hs8 hs8l
            go_wp2_with fail
            refine (rstore_4 HR10.out HP4.out HO4.out HS8L.out (by have := HN'.out; have := HN.out; have := HJN.out; have := HNR.out; omega)).mono ?_
            rintro e w11 ⟨rfl, hr11, hc11⟩
            have HR11 := Lib.hid hr11
            have HC11 : Hid (Chg [rm] Z w11) := Lib.hid (HC10.out.trans hc11)
            clear hr11 hc11 wp4
            have HME : Hid (refMem g p 18 85 vv = stN (stN g o nw 4) (o + 4) s8 4) := Lib.hid (by unfold refMem; rw [if_pos (by decide), show p + 4 - rb = o + 4 by (have := HPO.out; unfold rb; omega), ← HO.out, ← HWW.out, ← HNW.out, ← HW8.out, ← HS8.out])
            go_wp2
            case roundEnd => exact ⟨⟨j + 1, _, n' + 4 + 4, HJN.out, by rw [HW.out], HAP3.out.symm, by rw [HME.out]; exact HR11.out, by have := HN'.out; omega, HMB.out, HCZ.out.trans HC11.out⟩, by rw [HW.out]; simp only [intOf, Int.toNat_natCast]; have := HJN.out; omega⟩
          · rw [show strB 85 = ⟨#[85]⟩ from rfl]
            obtain ⟨t, ht⟩ : ∃ t, t = ww % 4096 := ⟨_, rfl⟩
            have e1 : (ww : Int).tmod 4096 = (t : Int) := by rw [Int.tmod_eq_emod_of_nonneg (by omega)]; omega
            have e2 : (ww : Int) % 4096 = (t : Int) := by omega
            obtain ⟨u, hu⟩ : ∃ u, u = upN vv := ⟨_, rfl⟩
            obtain ⟨nw, hnw⟩ : ∃ x, x = newW 85 ww vv := ⟨_, rfl⟩
            have hn2 : nw = t + u := by rw [hnw, ht, hu]; exact setU_eq ww vv HVL.out
            have hul : u < 8589934592 := by rw [hu]; exact Nat.lt_trans (upN_lt vv) (by decide)
            have htl : t < 8589934592 := by omega
            have WN := Lib.hid (w64add t u nw htl hul hn2).1
            have HU := Lib.hid hu
            clear ht hu hn2 hul htl
            go_wp2_with fail
            refine (refUpper_any vv HVL.out w4).mono ?_
            rintro e w' ⟨rfl, hw⟩
            obtain rfl := hw.symm
            clear hw
            rw [← HU.out]
            have wn := WN.out
            have HCS := HC4
            have HRS := HR4
            have hnl : nw < 4294967296 := by rw [hnw]; exact newW_lt _ _ _ HVL.out
            have HNW := Lib.hid hnw
            have HNL := Lib.hid hnl
            clear hnw hnl
            go_wp2_with fail
            refine (rstore_4 HRS.out HPO.out (by have := HPR.out.2; have := HPO.out; omega) HNL.out (by have := HN'.out; have := HN.out; have := HJN.out; have := HNR.out; omega)).mono ?_
            rintro e w7 ⟨rfl, hr7, hc7⟩
            have HR7 := Lib.hid hr7
            have HC7 : Hid (Chg [rm] Z w7) := Lib.hid (HCS.out.trans hc7)
            have c7 := (HQ.out _ HC7.out).2
            clear hr7 hc7
            clear wn e1 e2
            have HP8 := HPR8.out (by decide)
            obtain ⟨p4, hp4⟩ : ∃ x, x = p + 4 := ⟨_, rfl⟩
            have WP4 : Hid (wrap64 ((p : Int) + 4) = (p4 : Int)) := Lib.hid (w64add p 4 p4 (by have := HPR.out.2; omega) (by decide) hp4).1
            have HP4 : Hid (p4 = 2147483648 + (o + 4)) := Lib.hid (by rw [hp4]; have := HPO.out; omega)
            have HO4 : Hid (o + 4 + 4 ≤ 65536) := Lib.hid (by have := HPO.out; omega)
            have HG7 : Hid (∀ i, stN g o nw 4 i < 256) := Lib.hid (fun i => stN_lt _ HG.out _ _ _ i)
            obtain ⟨w8, hw8⟩ : ∃ x, x = leN g (o + 4) 4 := ⟨_, rfl⟩
            have hle : leN (stN g o nw 4) (o + 4) 4 = w8 := by rw [leN_apart _ _ _ _ (by omega), hw8]
            have HW8L : Hid (w8 < 4294967296) := Lib.hid (by rw [hw8]; exact leN_lt g HG.out (o + 4) 4)
            have HLE := Lib.hid hle
            have HW8 := Lib.hid hw8
            clear HP8 hp4 hw8 hle
            have wp4 := WP4.out
            go_wp2_with fail
            refine (rload_4 HR7.out HG7.out HP4.out HO4.out).mono ?_
            rintro e w9 ⟨rfl, hc9⟩
            rw [HLE.out]
            have HC9 : Hid (Chg [rm] Z w9) := Lib.hid (HC7.out.trans (chg_any hc9))
            have HR9 : Hid (RamAt w9 rp rm (n' + 4) (stN g o nw 4)) := Lib.hid (HR7.out.keep hc9 (by simp) (by simp))
            clear hc9 c7
            go_wp2_with fail
            refine (rset_I w8 vv HW8L.out HVL.out w9).mono ?_
            rintro e w10 ⟨rfl, hc10⟩
            have HC10 : Hid (Chg [rm] Z w10) := Lib.hid (HC9.out.trans (chg_any hc10))
            have HR10 : Hid (RamAt w10 rp rm (n' + 4) (stN g o nw 4)) := Lib.hid (HR9.out.keep hc10 (by simp) (by simp))
            clear hc10
            obtain ⟨s8, hs8⟩ : ∃ x, x = setI w8 vv := ⟨_, rfl⟩
            have hs8l : s8 < 4294967296 := by rw [hs8]; exact setI_lt _ _
            rw [← hs8]
            have HS8 := Lib.hid hs8
            have HS8L := Lib.hid hs8l
            clear hs8 hs8l
            go_wp2_with fail
            refine (rstore_4 HR10.out HP4.out HO4.out HS8L.out (by have := HN'.out; have := HN.out; have := HJN.out; have := HNR.out; omega)).mono ?_
            rintro e w11 ⟨rfl, hr11, hc11⟩
            have HR11 := Lib.hid hr11
            have HC11 : Hid (Chg [rm] Z w11) := Lib.hid (HC10.out.trans hc11)
            clear hr11 hc11 wp4
            have HME : Hid (refMem g p 19 85 vv = stN (stN g o nw 4) (o + 4) s8 4) := Lib.hid (by unfold refMem; rw [if_pos (by decide), show p + 4 - rb = o + 4 by (have := HPO.out; unfold rb; omega), ← HO.out, ← HWW.out, ← HNW.out, ← HW8.out, ← HS8.out])
            go_wp2
            case roundEnd => exact ⟨⟨j + 1, _, n' + 4 + 4, HJN.out, by rw [HW.out], HAP3.out.symm, by rw [HME.out]; exact HR11.out, by have := HN'.out; omega, HMB.out, HCZ.out.trans HC11.out⟩, by rw [HW.out]; simp only [intOf, Int.toNat_natCast]; have := HJN.out; omega⟩
          · have HT : Hid (ty ≠ 18 ∧ ty ≠ 19) := Lib.hid ⟨t18, t19⟩
            clear t18 t19
            rcases hL with rfl | rfl | rfl | rfl | rfl | rfl
            · rw [show strB 87 = ⟨#[87]⟩ from rfl]
              have HCS := HC4
              have HRS := HR4
              have hnw : vv = newW 87 ww vv := rfl
              have hnl : vv < 4294967296 := by rw [hnw]; exact newW_lt _ _ _ HVL.out
              have HNW := Lib.hid hnw
              have HNL := Lib.hid hnl
              clear hnw hnl
              go_wp2_with fail
              refine (rstore_4 HRS.out HPO.out (by have := HPR.out.2; have := HPO.out; omega) HNL.out (by have := HN'.out; have := HN.out; have := HJN.out; have := HNR.out; omega)).mono ?_
              rintro e w7 ⟨rfl, hr7, hc7⟩
              have HR7 := Lib.hid hr7
              have HC7 : Hid (Chg [rm] Z w7) := Lib.hid (HCS.out.trans hc7)
              have c7 := (HQ.out _ HC7.out).2
              clear hr7 hc7
              have HME : Hid (refMem g p ty 87 vv = stN g o vv 4) := Lib.hid (by unfold refMem; rw [if_neg (by intro h; rcases h with h | h; exact HT.out.1 h; exact HT.out.2 h), ← HO.out, ← HWW.out, ← HNW.out])
              have t1 : (ty == 18) = false := by rw [beq_eq_false_iff_ne]; exact HT.out.1
              have t2 : (ty == 19) = false := by rw [beq_eq_false_iff_ne]; exact HT.out.2
              go_wp2
              case roundEnd => exact ⟨⟨j + 1, _, n' + 4, HJN.out, by rw [HW.out], HAP3.out.symm, by rw [HME.out]; exact HR7.out, by have := HN'.out; omega, HMB.out, HCZ.out.trans HC7.out⟩, by rw [HW.out]; simp only [intOf, Int.toNat_natCast]; have := HJN.out; omega⟩
            · rw [show strB 85 = ⟨#[85]⟩ from rfl]
              obtain ⟨t, ht⟩ : ∃ t, t = ww % 4096 := ⟨_, rfl⟩
              have e1 : (ww : Int).tmod 4096 = (t : Int) := by rw [Int.tmod_eq_emod_of_nonneg (by omega)]; omega
              have e2 : (ww : Int) % 4096 = (t : Int) := by omega
              obtain ⟨u, hu⟩ : ∃ u, u = upN vv := ⟨_, rfl⟩
              obtain ⟨nw, hnw⟩ : ∃ x, x = newW 85 ww vv := ⟨_, rfl⟩
              have hn2 : nw = t + u := by rw [hnw, ht, hu]; exact setU_eq ww vv HVL.out
              have hul : u < 8589934592 := by rw [hu]; exact Nat.lt_trans (upN_lt vv) (by decide)
              have htl : t < 8589934592 := by omega
              have WN := Lib.hid (w64add t u nw htl hul hn2).1
              have HU := Lib.hid hu
              clear ht hu hn2 hul htl
              go_wp2_with fail
              refine (refUpper_any vv HVL.out w4).mono ?_
              rintro e w' ⟨rfl, hw⟩
              obtain rfl := hw.symm
              clear hw
              rw [← HU.out]
              have wn := WN.out
              have HCS := HC4
              have HRS := HR4
              have hnl : nw < 4294967296 := by rw [hnw]; exact newW_lt _ _ _ HVL.out
              have HNW := Lib.hid hnw
              have HNL := Lib.hid hnl
              clear hnw hnl
              go_wp2_with fail
              refine (rstore_4 HRS.out HPO.out (by have := HPR.out.2; have := HPO.out; omega) HNL.out (by have := HN'.out; have := HN.out; have := HJN.out; have := HNR.out; omega)).mono ?_
              rintro e w7 ⟨rfl, hr7, hc7⟩
              have HR7 := Lib.hid hr7
              have HC7 : Hid (Chg [rm] Z w7) := Lib.hid (HCS.out.trans hc7)
              have c7 := (HQ.out _ HC7.out).2
              clear hr7 hc7
              clear wn e1 e2
              have HME : Hid (refMem g p ty 85 vv = stN g o nw 4) := Lib.hid (by unfold refMem; rw [if_neg (by intro h; rcases h with h | h; exact HT.out.1 h; exact HT.out.2 h), ← HO.out, ← HWW.out, ← HNW.out])
              have t1 : (ty == 18) = false := by rw [beq_eq_false_iff_ne]; exact HT.out.1
              have t2 : (ty == 19) = false := by rw [beq_eq_false_iff_ne]; exact HT.out.2
              go_wp2
              case roundEnd => exact ⟨⟨j + 1, _, n' + 4, HJN.out, by rw [HW.out], HAP3.out.symm, by rw [HME.out]; exact HR7.out, by have := HN'.out; omega, HMB.out, HCZ.out.trans HC7.out⟩, by rw [HW.out]; simp only [intOf, Int.toNat_natCast]; have := HJN.out; omega⟩
            · rw [show strB 73 = ⟨#[73]⟩ from rfl]
              obtain ⟨nw, hnw⟩ : ∃ x, x = newW 73 ww vv := ⟨_, rfl⟩
              go_wp2_with fail
              refine (rset_I ww vv HWL.out HVL.out w4).mono ?_
              rintro e wS ⟨rfl, hcS⟩
              rw [show setI ww vv = nw from hnw.symm]
              have HCS : Hid (Chg [rm] Z wS) := Lib.hid (HC4.out.trans (chg_any hcS))
              have HRS : Hid (RamAt wS rp rm n' g) := Lib.hid (HR4.out.keep hcS (by simp) (by simp))
              clear hcS
              have hnl : nw < 4294967296 := by rw [hnw]; exact newW_lt _ _ _ HVL.out
              have HNW := Lib.hid hnw
              have HNL := Lib.hid hnl
              clear hnw hnl
              go_wp2_with fail
              refine (rstore_4 HRS.out HPO.out (by have := HPR.out.2; have := HPO.out; omega) HNL.out (by have := HN'.out; have := HN.out; have := HJN.out; have := HNR.out; omega)).mono ?_
              rintro e w7 ⟨rfl, hr7, hc7⟩
              have HR7 := Lib.hid hr7
              have HC7 : Hid (Chg [rm] Z w7) := Lib.hid (HCS.out.trans hc7)
              have c7 := (HQ.out _ HC7.out).2
              clear hr7 hc7
              have HME : Hid (refMem g p ty 73 vv = stN g o nw 4) := Lib.hid (by unfold refMem; rw [if_neg (by intro h; rcases h with h | h; exact HT.out.1 h; exact HT.out.2 h), ← HO.out, ← HWW.out, ← HNW.out])
              have t1 : (ty == 18) = false := by rw [beq_eq_false_iff_ne]; exact HT.out.1
              have t2 : (ty == 19) = false := by rw [beq_eq_false_iff_ne]; exact HT.out.2
              go_wp2
              case roundEnd => exact ⟨⟨j + 1, _, n' + 4, HJN.out, by rw [HW.out], HAP3.out.symm, by rw [HME.out]; exact HR7.out, by have := HN'.out; omega, HMB.out, HCZ.out.trans HC7.out⟩, by rw [HW.out]; simp only [intOf, Int.toNat_natCast]; have := HJN.out; omega⟩
            · rw [show strB 83 = ⟨#[83]⟩ from rfl]
              obtain ⟨nw, hnw⟩ : ∃ x, x = newW 83 ww vv := ⟨_, rfl⟩
              go_wp2_with fail
              refine (rset_S ww vv HWL.out HVL.out w4).mono ?_
              rintro e wS ⟨rfl, hcS⟩
              rw [show setS ww vv = nw from hnw.symm]
              have HCS : Hid (Chg [rm] Z wS) := Lib.hid (HC4.out.trans (chg_any hcS))
              have HRS : Hid (RamAt wS rp rm n' g) := Lib.hid (HR4.out.keep hcS (by simp) (by simp))
              clear hcS
              have hnl : nw < 4294967296 := by rw [hnw]; exact newW_lt _ _ _ HVL.out
              have HNW := Lib.hid hnw
              have HNL := Lib.hid hnl
              clear hnw hnl
              go_wp2_with fail
              refine (rstore_4 HRS.out HPO.out (by have := HPR.out.2; have := HPO.out; omega) HNL.out (by have := HN'.out; have := HN.out; have := HJN.out; have := HNR.out; omega)).mono ?_
              rintro e w7 ⟨rfl, hr7, hc7⟩
              have HR7 := Lib.hid hr7
              have HC7 : Hid (Chg [rm] Z w7) := Lib.hid (HCS.out.trans hc7)
              have c7 := (HQ.out _ HC7.out).2
              clear hr7 hc7
              have HME : Hid (refMem g p ty 83 vv = stN g o nw 4) := Lib.hid (by unfold refMem; rw [if_neg (by intro h; rcases h with h | h; exact HT.out.1 h; exact HT.out.2 h), ← HO.out, ← HWW.out, ← HNW.out])
              have t1 : (ty == 18) = false := by rw [beq_eq_false_iff_ne]; exact HT.out.1
              have t2 : (ty == 19) = false := by rw [beq_eq_false_iff_ne]; exact HT.out.2
              go_wp2
              case roundEnd => exact ⟨⟨j + 1, _, n' + 4, HJN.out, by rw [HW.out], HAP3.out.symm, by rw [HME.out]; exact HR7.out, by have := HN'.out; omega, HMB.out, HCZ.out.trans HC7.out⟩, by rw [HW.out]; simp only [intOf, Int.toNat_natCast]; have := HJN.out; omega⟩
            · rw [show strB 66 = ⟨#[66]⟩ from rfl]
              obtain ⟨nw, hnw⟩ : ∃ x, x = newW 66 ww vv := ⟨_, rfl⟩
              go_wp2_with fail
              refine (rset_B ww vv HWL.out HVL.out w4).mono ?_
              rintro e wS ⟨rfl, hcS⟩
              rw [show setB ww vv = nw from hnw.symm]
              have HCS : Hid (Chg [rm] Z wS) := Lib.hid (HC4.out.trans (chg_any hcS))
              have HRS : Hid (RamAt wS rp rm n' g) := Lib.hid (HR4.out.keep hcS (by simp) (by simp))
              clear hcS
              have hnl : nw < 4294967296 := by rw [hnw]; exact newW_lt _ _ _ HVL.out
              have HNW := Lib.hid hnw
              have HNL := Lib.hid hnl
              clear hnw hnl
              go_wp2_with fail
              refine (rstore_4 HRS.out HPO.out (by have := HPR.out.2; have := HPO.out; omega) HNL.out (by have := HN'.out; have := HN.out; have := HJN.out; have := HNR.out; omega)).mono ?_
              rintro e w7 ⟨rfl, hr7, hc7⟩
              have HR7 := Lib.hid hr7
              have HC7 : Hid (Chg [rm] Z w7) := Lib.hid (HCS.out.trans hc7)
              have c7 := (HQ.out _ HC7.out).2
              clear hr7 hc7
              have HME : Hid (refMem g p ty 66 vv = stN g o nw 4) := Lib.hid (by unfold refMem; rw [if_neg (by intro h; rcases h with h | h; exact HT.out.1 h; exact HT.out.2 h), ← HO.out, ← HWW.out, ← HNW.out])
              have t1 : (ty == 18) = false := by rw [beq_eq_false_iff_ne]; exact HT.out.1
              have t2 : (ty == 19) = false := by rw [beq_eq_false_iff_ne]; exact HT.out.2
              go_wp2
              case roundEnd => exact ⟨⟨j + 1, _, n' + 4, HJN.out, by rw [HW.out], HAP3.out.symm, by rw [HME.out]; exact HR7.out, by have := HN'.out; omega, HMB.out, HCZ.out.trans HC7.out⟩, by rw [HW.out]; simp only [intOf, Int.toNat_natCast]; have := HJN.out; omega⟩
            · rw [show strB 74 = ⟨#[74]⟩ from rfl]
              obtain ⟨nw, hnw⟩ : ∃ x, x = newW 74 ww vv := ⟨_, rfl⟩
              go_wp2_with fail
              refine (rset_J ww vv HWL.out HVL.out w4).mono ?_
              rintro e wS ⟨rfl, hcS⟩
              rw [show setJ ww vv = nw from hnw.symm]
              have HCS : Hid (Chg [rm] Z wS) := Lib.hid (HC4.out.trans (chg_any hcS))
              have HRS : Hid (RamAt wS rp rm n' g) := Lib.hid (HR4.out.keep hcS (by simp) (by simp))
              clear hcS
              have hnl : nw < 4294967296 := by rw [hnw]; exact newW_lt _ _ _ HVL.out
              have HNW := Lib.hid hnw
              have HNL := Lib.hid hnl
              clear hnw hnl
              go_wp2_with fail
              refine (rstore_4 HRS.out HPO.out (by have := HPR.out.2; have := HPO.out; omega) HNL.out (by have := HN'.out; have := HN.out; have := HJN.out; have := HNR.out; omega)).mono ?_
              rintro e w7 ⟨rfl, hr7, hc7⟩
              have HR7 := Lib.hid hr7
              have HC7 : Hid (Chg [rm] Z w7) := Lib.hid (HCS.out.trans hc7)
              have c7 := (HQ.out _ HC7.out).2
              clear hr7 hc7
              have HME : Hid (refMem g p ty 74 vv = stN g o nw 4) := Lib.hid (by unfold refMem; rw [if_neg (by intro h; rcases h with h | h; exact HT.out.1 h; exact HT.out.2 h), ← HO.out, ← HWW.out, ← HNW.out])
              have t1 : (ty == 18) = false := by rw [beq_eq_false_iff_ne]; exact HT.out.1
              have t2 : (ty == 19) = false := by rw [beq_eq_false_iff_ne]; exact HT.out.2
              go_wp2
              case roundEnd => exact ⟨⟨j + 1, _, n' + 4, HJN.out, by rw [HW.out], HAP3.out.symm, by rw [HME.out]; exact HR7.out, by have := HN'.out; omega, HMB.out, HCZ.out.trans HC7.out⟩, by rw [HW.out]; simp only [intOf, Int.toNat_natCast]; have := HJN.out; omega⟩
        · have HF1 : Hid (applyN bias Rs Ys Ss Rs f = (ee, g)) := Lib.hid (by rw [HAP2.out, HONE.out, if_pos he, if_pos he])
          have n1 : ((ee : Int) == 0) = false := by rw [beq_eq_false_iff_ne]; omega
          go_wp2
          go_ret
          exact ⟨n', by rw [HF1.out]; rfl, by rw [HF1.out]; exact HR4.out, by have := HN'.out; have := HJN.out; omega, (chg_any HCX.out).trans (HCZ.out.trans HC4.out)⟩
    · have hjn2 : j = v.nrl := by have := HJ.out; omega
      have dI : ¬ (j : Int) < (v.nrl : Int) := by omega
      have HFF2 : Hid (applyN bias Rs Ys Ss Rs f = (0, g)) := Lib.hid (by rw [← HAP.out, List.drop_eq_nil_of_le (by have := (HRA.out _ HCH.out).file.rn; omega)]; rfl)
      clear hjn
      go_wp2
      go_ret
      exact ⟨n', by rw [HFF2.out]; rfl, by rw [HFF2.out]; exact HRAM.out, by have := HN'.out; omega, (chg_any HCX.out).trans HCH.out⟩
end Go.Proofs.L
