/- Proved here: lemmas and contracts (Rr12) for the laws of this seat, for all values of the stated types; no further condition. -/
import Derived.Test.YtjiiojbenbldlaaRr11
open Go Go.RowKit Go.Lib
namespace Go.Proofs.L
attribute [local irreducible] wpT
theorem leN_at {g : Nat → Nat} {p o : Nat} (h : p = 2147483648 + o) : leN g (p - rb) 4 = leN g o 4 := by
  have e : p - rb = o := by unfold rb; omega
  rw [e]
theorem ld_any (g : Nat → Nat) (hg : ∀ i, g i < 256) (a b : Nat) (ha : a < 4294967296) (w : World) (hw : w.row? b = some (mem g)) : ∃ (x : Nat) (e : Int), x < 4294967296 ∧ (2147483648 ≤ a ∧ a + 4 ≤ 2147549184 → x = leN g (a - rb) 4) ∧ Calls Try.prog 13 #[.pointer (some ⟨b, 0, none⟩), .int .u32 (a : Int), .int .i64 4] w fun e' w' => e' = .returned (.tuple #[.int .u32 (x : Int), .int .i64 e]) ∧ Chg [] w w' :=
  ⟨(ldN g a).1, _, ldN_lt g hg a, fun h => by rw [ld_ram g h], load4_any g hg a b ha w hw⟩
set_option maxRecDepth 100000 in
set_option maxHeartbeats 64000000 in
theorem means_walk (j : Jb) (w : World) (Ws : List Nat) (Rs : List Rl) (Ys : List Nat) (hW : NatAt w .u32 j.bW j.oW Ws) (hWn : Ws.length = j.nW) (hp : 0 < j.nW → j.pW = some ⟨j.bW, j.oW, none⟩) (hF : FileOk w j.v Rs Ys) (he : j.v.e = .int .u32 0) (hsg : j.v.sg = .slice none 0 0) :
    Calls Try.prog 3 #[.agg (jobA j)] w fun e w' => e = .returned (.bool true) ∧ Chg [] w w' := by
  obtain ⟨pW, bW, oW, nW, cW, ⟨e0, sg0, prl, brl, orl, nrl, crl, psy, bsy, osy, nsy, csy, bi0, psp0, bsp0, osp0, nsp0, csp0, m0⟩, more, split⟩ := j
  dsimp only at hW hWn hp hF he hsg
  subst he hsg
  obtain ⟨Jb', hJb⟩ : ∃ b, b = w.heap.size := ⟨_, rfl⟩
  obtain ⟨X, hX⟩ : ∃ X, X = w.alloc (.cells (jobA ⟨pW, bW, oW, nW, cW, ⟨.int .u32 0, .slice none 0 0, prl, brl, orl, nrl, crl, psy, bsy, osy, nsy, csy, bi0, psp0, bsp0, osp0, nsp0, csp0, m0⟩, more, split⟩) 26) := ⟨_, rfl⟩
  have hcX : Chg [] w X := by rw [hX]; exact (Chg.refl _ _).alloc _
  have hrX : X.row? Jb' = some (jobA ⟨pW, bW, oW, nW, cW, ⟨.int .u32 0, .slice none 0 0, prl, brl, orl, nrl, crl, psy, bsy, osy, nsy, csy, bi0, psp0, bsp0, osp0, nsp0, csp0, m0⟩, more, split⟩) := by rw [hX]; exact row_alloc_at _ _ _ _ hJb
  have HRX := Lib.hid hrX
  have HCX := Lib.hid hcX
  have HWX := Lib.hid (hW.keep hcX (by simp))
  have HWN := Lib.hid hWn
  have HP := Lib.hid hp
  have HFX := Lib.hid (hF.keep hcX (by simp) (by simp))
  have HX := Lib.hid hX
  have HJB := Lib.hid hJb
  have hjA : jobA ⟨pW, bW, oW, nW, cW, ⟨.int .u32 0, .slice none 0 0, prl, brl, orl, nrl, crl, psy, bsy, osy, nsy, csy, bi0, psp0, bsp0, osp0, nsp0, csp0, m0⟩, more, split⟩ = #[.slice pW nW cW, .slice psy nsy csy, .slice prl nrl crl, .int .u32 (more : Int), .int .i64 split] := rfl
  rw [hjA]
  rw [hjA] at HX HRX
  clear hW hWn hp hF hX hJb hcX hrX hjA
  have HRJ : Hid (∀ W, Chg [] X W → W.row? Jb' = some #[.slice pW nW cW, .slice psy nsy csy, .slice prl nrl crl, .int .u32 (more : Int), .int .i64 split]) := Lib.hid fun W hW => (hW.row (row_lt HRX.out) (by simp)).trans HRX.out
  go_enter Try.func3, Try.ntmps3
  go_upto_region 1 with (fail)
  rw [← HX.out, ← HJB.out]
  clear HX
  go_wp2_with fail
  refine (fit_any X).mono ?_
  rintro e w1 ⟨rfl, hc1⟩
  have HC1 := Lib.hid hc1
  clear hc1
  go_wp2_with (first | (refine wpList_load_part a26 [.slice pW nW cW, .slice psy nsy csy, .slice prl nrl crl, .int .u32 (more : Int), .int .i64 split] rfl _ rfl rfl rfl (fun i u hu => by rw [Nat.zero_add, row_cell (HRJ.out _ HC1.out)]; simpa [RlC] using hu) ?_) | fail)
  refine (small_any ⟨pW, bW, oW, nW, cW, ⟨.int .u32 0, .slice none 0 0, prl, brl, orl, nrl, crl, psy, bsy, osy, nsy, csy, bi0, psp0, bsp0, osp0, nsp0, csp0, m0⟩, more, split⟩ w1).mono ?_
  rintro e w2 ⟨rfl, hc2⟩
  have HC2 := Lib.hid (HC1.out.trans hc2)
  clear hc2
  have c1 : w2.cell? ⟨Jb', 1, none⟩ = some (.slice psy nsy csy) := by rw [row_cell (HRJ.out _ HC2.out)]; rfl
  have c2 : w2.cell? ⟨Jb', 2, none⟩ = some (.slice prl nrl crl) := by rw [row_cell (HRJ.out _ HC2.out)]; rfl
  by_cases hsm : smallN ⟨pW, bW, oW, nW, cW, ⟨.int .u32 0, .slice none 0 0, prl, brl, orl, nrl, crl, psy, bsy, osy, nsy, csy, bi0, psp0, bsp0, osp0, nsp0, csp0, m0⟩, more, split⟩
  · have HSM := Lib.hid hsm
    rw [decide_eq_true hsm]
    clear hsm
    by_cases hn0 : nrl = 0
    · have b0 : ((nrl : Int) == 0) = true := by rw [hn0]; rfl
      go_wp2
      go_ret
      exact ⟨rfl, HCX.out.trans HC2.out⟩
    · have b0 : ((nrl : Int) == 0) = false := by rw [beq_eq_false_iff_ne]; omega
      have hpe : prl = some ⟨brl, orl, none⟩ := HFX.out.rp (Nat.pos_of_ne_zero hn0)
      obtain rfl := hpe
      have hs1 : nW ≤ 300 := HSM.out.1
      have hs2 : nrl ≤ 100 := HSM.out.2.2.1
      have hs3 : 0 < nW := HSM.out.2.2.2
      have HS1 := Lib.hid hs1
      have HS2 := Lib.hid hs2
      have HS3 := Lib.hid hs3
      clear hs1 hs2 hs3
      obtain ⟨V, hV⟩ : ∃ V, V = w2.alloc (.cells #[.int .u32 0, .slice none 0 0, .slice (some ⟨brl, orl, none⟩) nrl crl, .slice psy nsy csy] 30) := ⟨_, rfl⟩
      obtain ⟨Fb, hFb⟩ : ∃ b, b = w2.heap.size := ⟨_, rfl⟩
      have hcV : Chg [] w2 V := by rw [hV]; exact (Chg.refl _ _).alloc _
      have hrV : V.row? Fb = some #[.int .u32 0, .slice none 0 0, .slice (some ⟨brl, orl, none⟩) nrl crl, .slice psy nsy csy] := by rw [hV]; exact row_alloc_at _ _ _ _ hFb
      have HRF : Hid (∀ W, Chg [] V W → W.row? Fb = some #[.int .u32 0, .slice none 0 0, .slice (some ⟨brl, orl, none⟩) nrl crl, .slice psy nsy csy]) := Lib.hid fun W hW => (hW.row (row_lt hrV) (by simp)).trans hrV
      have HCV : Hid (Chg [] X V) := Lib.hid (HC2.out.trans hcV)
      have HFV : Hid (∀ W, Chg [] V W → FileOk W ⟨.int .u32 0, .slice none 0 0, (some ⟨brl, orl, none⟩), brl, orl, nrl, crl, psy, bsy, osy, nsy, csy, bi0, psp0, bsp0, osp0, nsp0, csp0, m0⟩ Rs Ys) := Lib.hid fun W hW => HFX.out.keep (HCV.out.trans hW) (by simp) (by simp)
      have HA : Hid (fileA ⟨.int .u32 0, .slice none 0 0, (some ⟨brl, orl, none⟩), brl, orl, nrl, crl, psy, bsy, osy, nsy, csy, bi0, psp0, bsp0, osp0, nsp0, csp0, m0⟩ = #[.int .u32 0, .slice none 0 0, .slice (some ⟨brl, orl, none⟩) nrl crl, .slice psy nsy csy]) := Lib.hid rfl
      have HV := Lib.hid hV
      have HFB := Lib.hid hFb
      have d2 : V.cell? ⟨Jb', 2, none⟩ = some (.slice (some ⟨brl, orl, none⟩) nrl crl) := by rw [row_cell (HRJ.out _ HCV.out)]; rfl
      clear hV hFb hcV hrV
      go_upto_region 6 with (fail)
      rw [← HV.out, ← HFB.out]
      clear HV HFB c1 c2 b0
      go_wp2_with fail
      clear d2
      go_loopw [40] (fun i wr => ∃ k : Nat, k ≤ nrl ∧ i = .int .i64 (k : Int) ∧ Chg [] V wr) (fun i _ => nrl - (intOf i).toNat)
      case atStart => exact ⟨0, Nat.zero_le _, rfl, Chg.refl _ _⟩
      case round =>
        obtain ⟨k, hk, rfl, hch⟩ := hrel
        have HK := Lib.hid hk
        have HCH := Lib.hid hch
        clear hk hch
        by_cases hkn : k < nrl
        · have HKN := Lib.hid hkn
          have dI : (k : Int) < (nrl : Int) := by omega
          have hlen : k < Rs.length := by have h : Rs.length = nrl := (HFV.out _ HCH.out).rn; omega
          obtain ⟨r, hr⟩ : ∃ r, Rs[k]? = some r := ⟨_, List.getElem?_eq_getElem hlen⟩
          obtain ⟨hsc, hst, hsz⟩ := (HFV.out _ HCH.out).rl k r hr
          have HSC : Hid (∀ i u, (RlC r)[i]? = some u → wr.cell? ⟨brl, orl + k * 4 + i, none⟩ = some u) := Lib.hid hsc
          have HST := Lib.hid hst
          have HSZ := Lib.hid hsz
          have HW : Hid (wrap64 ((k : Int) + 1) = ((k + 1 : Nat) : Int)) := Lib.hid (wrap1 k (by have := HS2.out; omega))
          obtain ⟨Z, hZ⟩ : ∃ Z, Z = wr.alloc (.cells (RlC r).toArray 32) := ⟨_, rfl⟩
          obtain ⟨B, hB⟩ : ∃ B, B = wr.heap.size := ⟨_, rfl⟩
          have hrZ : Z.row? B = some (RlC r).toArray := by rw [hZ, hB]; exact row_alloc_at _ _ _ _ rfl
          have hcZ : Chg [] wr Z := by rw [hZ]; exact (Chg.refl _ _).alloc _
          have HCZ : Hid (Chg [] V Z) := Lib.hid (HCH.out.trans hcZ)
          obtain ⟨ra, ty, sy, add⟩ := r
          have HRZ : Hid (∀ W, Chg [] Z W → W.row? B = some #[.int .u32 (ra : Int), .int .i64 ty, .int .i64 sy, .int .u32 (add : Int)]) := Lib.hid fun W hW => (hW.row (row_lt hrZ) (by simp)).trans hrZ
          have HZ := Lib.hid hZ
          have HB2 := Lib.hid hB
          clear hr hsc hst hsz hZ hB hrZ hcZ hkn hlen
          go_upto_region 9 with (first | (refine wpList_load_part a32 (RlC ⟨ra, ty, sy, add⟩) rfl _ rfl rfl rfl HSC.out ?_) | (refine wpList_store_new a32 _ _ rfl rfl rfl rfl rfl rfl rfl rfl ?_))
          rw [← HZ.out, ← HB2.out]
          clear HZ HB2 dI HSC
          go_wp2_with (first | (refine wpList_load_part a26 [.slice pW nW cW, .slice psy nsy csy, .slice (some ⟨brl, orl, none⟩) nrl crl, .int .u32 (more : Int), .int .i64 split] rfl _ rfl rfl rfl (fun i u hu => by rw [Nat.zero_add, row_cell (HRJ.out _ (HCV.out.trans HCZ.out))]; simpa [RlC] using hu) ?_) | fail)
          refine (lay_any ⟨pW, bW, oW, nW, cW, ⟨.int .u32 0, .slice none 0 0, (some ⟨brl, orl, none⟩), brl, orl, nrl, crl, psy, bsy, osy, nsy, csy, bi0, psp0, bsp0, osp0, nsp0, csp0, m0⟩, more, split⟩ Z Ws (HWX.out.keep (HCV.out.trans HCZ.out) (by simp)) HWN.out HP.out HS1.out HS3.out).mono ?_
          rintro e w3 ⟨mb, rp, rm, sb, rb', N, rfl, hQ⟩
          have HQ := Lib.hid hQ
          have HC3 : Hid (Chg [] Z w3) := Lib.hid hQ.chg
          clear hQ
          obtain ⟨bs, hbs⟩ : ∃ b, b = bsN more := ⟨_, rfl⟩
          have hbl : bs < 4294967296 := by rw [hbs]; exact Nat.mod_lt _ (by decide)
          rw [← hbs]
          have HBL := Lib.hid hbl
          have HWB := Lib.hid (w64id bs (Nat.lt_trans hbl (by decide))).1
          clear hbs hbl
          have c1 : w3.cell? ⟨Jb', 1, none⟩ = some (.slice psy nsy csy) := by rw [row_cell (HRJ.out _ (HCV.out.trans (HCZ.out.trans HC3.out)))]; rfl
          obtain ⟨Rb, hRb⟩ : ∃ b, b = w3.heap.size := ⟨_, rfl⟩
          obtain ⟨V2, hV2⟩ : ∃ V, V = (w3.alloc (.cells #[.int .u32 (ra : Int), .int .i64 ty, .int .i64 sy, .int .u32 (add : Int)] 32)).alloc (.cells #[.int .u32 0, .slice none 0 0, .slice (some ⟨Rb, 0, none⟩) 1 1, .slice psy nsy csy] 30) := ⟨_, rfl⟩
          have hc2 : Chg [] w3 V2 := by rw [hV2]; exact ((Chg.refl _ _).alloc _).alloc _
          have hrF2 : V2.row? (Rb + 1) = some #[.int .u32 0, .slice none 0 0, .slice (some ⟨Rb, 0, none⟩) 1 1, .slice psy nsy csy] := by rw [hV2]; exact row_alloc_at _ _ _ _ (by simp [hRb])
          have hrR2 : V2.row? Rb = some (([⟨ra, ty, sy, add⟩] : List Rl).flatMap RlC).toArray := by rw [hV2, row_alloc_past _ _ _ (by simp; omega)]; exact row_alloc_at _ _ _ _ hRb
          have HRF2 := Lib.hid hrF2
          have HRR2 := Lib.hid hrR2
          have HC2b := Lib.hid hc2
          have HCZ2 : Hid (Chg [] Z V2) := Lib.hid (HC3.out.trans hc2)
          have HRBM : Hid (Rb ≠ mb ∧ V.heap.size ≤ mb) := Lib.hid (by have h1 := row_lt HQ.out.lay.row; have h2 := HCZ.out.size; have h3 := HQ.out.new.1; omega)
          obtain ⟨b1, b2, hF1, -, hb2⟩ := fresh_file HFX.out (mb + 1)
          have hb3 : b2 ≠ mb := by
            have h1 := HQ.out.new.1
            have h2 := HCZ.out.size
            have h3 := HCV.out.size
            omega
          have hF2 := hF1.keep (HCV.out.trans (HCZ.out.trans HCZ2.out)) (by simp) (by simp)
          have HF2 : Hid (FileOk V2 ⟨.int .u32 0, .slice none 0 0, some ⟨Rb, 0, none⟩, Rb, 0, 1, 1, psy, b2, osy, nsy, csy, bi0, psp0, bsp0, osp0, nsp0, csp0, m0⟩ [⟨ra, ty, sy, add⟩] Ys) := Lib.hid ⟨rls_row hrR2 (by intro r hr; rw [List.mem_singleton] at hr; rw [hr]; exact ⟨HST.out, HSZ.out⟩), rfl, fun _ => rfl, hF2.sy, hF2.yn, hF2.yp⟩
          have HB3 := Lib.hid hb3
          have HV2 := Lib.hid hV2
          have HRBE := Lib.hid hRb
          obtain ⟨F, hFF⟩ : ∃ F, F = wordsF Ws nW := ⟨_, rfl⟩
          obtain ⟨kk, hkk⟩ : ∃ k, k = kN split nW := ⟨_, rfl⟩
          rw [← hFF, ← hkk] at HQ
          have HBY : Hid (∀ i, F i < 256) := Lib.hid (by rw [hFF]; exact wordsF_lt Ws nW)
          have hap := apply_lay HF2.out ((HC2b.out.row (row_lt HQ.out.lay.row) (by simp)).trans HQ.out.lay.row) HBY.out ((HC2b.out.row (row_lt HQ.out.sp) (by simp)).trans HQ.out.sp) HQ.out.kk HS1.out HBL.out (show (1 : Nat) < 1000 by decide) HRBM.out.1 HB3.out HQ.out.ap.1
          obtain ⟨⟨er, g⟩, hR⟩ : ∃ t, t = applyN bs [⟨ra, ty, sy, add⟩] Ys (ssN kk nW) [⟨ra, ty, sy, add⟩] F := ⟨_, rfl⟩
          rw [← hR] at hap
          have HAP : Hid (Calls Try.prog 11 #[.pointer (some ⟨mb, 0, none⟩), .agg #[.int .u32 0, .slice none 0 0, .slice (some ⟨Rb, 0, none⟩) 1 1, .slice psy nsy csy], .int .u32 (bs : Int), .slice (some ⟨sb, 0, none⟩) 2 2] V2 (OneQ V2 mb (er, g))) := Lib.hid hap
          have HR := Lib.hid hR
          have HSS := Lib.hid (ss_ram kk nW HQ.out.kk HS1.out)
          clear hap hR hFF hkk hF1 hb2 hb3 hF2 hV2 hRb hc2 hrF2 hrR2
          go_upto_region 11 with (first | (refine wpList_load_part a32 [.int .u32 (ra : Int), .int .i64 ty, .int .i64 sy, .int .u32 (add : Int)] rfl _ rfl rfl rfl (fun i u hu => by rw [Nat.zero_add, row_cell (HRZ.out _ HC3.out)]; simpa [RlC] using hu) ?_) | fail)
          rw [← HRBE.out, ← HV2.out]
          clear HV2 c1
          have c1 : V2.cell? ⟨B, 1, none⟩ = some (.int .i64 ty) := by rw [row_cell (HRZ.out _ HCZ2.out)]; rfl
          by_cases h24 : ty = 24
          · have b24 : (ty == 24) = true := by rw [beq_iff_eq]; exact h24
            go_wp2
            case roundEnd => exact ⟨⟨k + 1, HKN.out, by rw [HW.out], HCZ.out.trans HCZ2.out⟩, by rw [HW.out]; simp only [intOf, Int.toNat_natCast]; have := HKN.out; omega⟩
          · have b24 : (ty == 24) = false := by rw [beq_eq_false_iff_ne]; exact h24
            by_cases h25 : ty = 25
            · have b25 : (ty == 25) = true := by rw [beq_iff_eq]; exact h25
              go_wp2
              case roundEnd => exact ⟨⟨k + 1, HKN.out, by rw [HW.out], HCZ.out.trans HCZ2.out⟩, by rw [HW.out]; simp only [intOf, Int.toNat_natCast]; have := HKN.out; omega⟩
            · have b25 : (ty == 25) = false := by rw [beq_eq_false_iff_ne]; exact h25
              have H24 := Lib.hid h24
              have H25 := Lib.hid h25
              clear h24 h25
              have f0 : V2.cell? ⟨Rb + 1, 0, none⟩ = some (.int .u32 0) := by rw [row_cell HRF2.out]; rfl
              have f1 : V2.cell? ⟨Rb + 1, 1, none⟩ = some (.slice none 0 0) := by rw [row_cell HRF2.out]; rfl
              have f2 : V2.cell? ⟨Rb + 1, 2, none⟩ = some (.slice (some ⟨Rb, 0, none⟩) 1 1) := by rw [row_cell HRF2.out]; rfl
              have f3 : V2.cell? ⟨Rb + 1, 3, none⟩ = some (.slice psy nsy csy) := by rw [row_cell HRF2.out]; rfl
              go_wp2_with fail
              refine HAP.out.mono ?_
              rintro e w4 ⟨rfl, hr4, hc4⟩
              have HR4 := Lib.hid hr4
              have HC4 : Hid (Chg [] V w4) := Lib.hid ((HCZ.out.trans HCZ2.out).transM hc4 HRBM.out.2)
              have HBM : Hid (B ≠ mb) := Lib.hid (by have h1 := row_lt (HRZ.out Z (Chg.refl _ _)); have h2 := HQ.out.new.1; omega)
              have HRZ4 : Hid (∀ W, Chg [] w4 W → W.row? B = some #[.int .u32 (ra : Int), .int .i64 ty, .int .i64 sy, .int .u32 (add : Int)]) := Lib.hid fun W hW => by
                have h2 := (hc4.row (row_lt (HRZ.out _ HCZ2.out)) (by simpa using HBM.out)).trans (HRZ.out _ HCZ2.out)
                exact (hW.row (row_lt h2) (by simp)).trans h2
              clear hr4 hc4 c1 b24 b25 f0 f1 f2 f3
              by_cases he : er = 0
              · subst he
                obtain ⟨o, L, v, w0, hsz, hp, ho, hval, hvl, hwl, hlo, hgb, hcase⟩ := means_plain (Rs := Rs) (Ys := Ys) HSS.out HBY.out H24.out H25.out HBL.out HR.out.symm
                simp only at hsz hp hcase
                have HSZE := Lib.hid hsz
                have HPO := Lib.hid hp
                have HO := Lib.hid ho
                have HVAL := Lib.hid hval
                have HVL := Lib.hid hvl
                have HWL := Lib.hid hwl
                have HLO := Lib.hid hlo
                have HGB := Lib.hid hgb
                have wb := HWB.out
                clear hsz hp ho hval hvl hwl hlo hgb
                go_wp2_with (first | (refine wpList_load_part a30 [.int .u32 0, .slice none 0 0, .slice (some ⟨brl, orl, none⟩) nrl crl, .slice psy nsy csy] rfl _ rfl rfl rfl (fun i u hu => by rw [Nat.zero_add, row_cell (HRF.out _ HC4.out)]; simpa [RlC] using hu) ?_) | (refine wpList_load_part a32 [.int .u32 (ra : Int), .int .i64 ty, .int .i64 sy, .int .u32 (add : Int)] rfl _ rfl rfl rfl (fun i u hu => by rw [Nat.zero_add, row_cell (HRZ4.out _ (Chg.refl _ _))]; simpa [RlC] using hu) ?_) | fail)
                have hv5 := rval_any (HFV.out _ HC4.out) (by have := HS2.out; show nrl < 1000000; omega) bs ⟨ra, ty, sy, add⟩ HBL.out HST.out HSZ.out HSZE.out
                rw [HVAL.out, HA.out] at hv5
                have HV5 := Lib.hid hv5
                clear hv5 wb
                refine HV5.out.mono ?_
                rintro e w5 ⟨rfl, hc5⟩
                have HC5 := Lib.hid (HC4.out.trans hc5)
                have HR5 : Hid (w5.row? mb = some (mem g)) := Lib.hid ((hc5.row (row_lt HR4.out) (by simp)).trans HR4.out)
                have HC45 := Lib.hid hc5
                obtain ⟨p, hpp⟩ : ∃ p, p = (bs + ra) % 4294967296 := ⟨_, rfl⟩
                have hpl : p < 4294967296 := by rw [hpp]; exact Nat.mod_lt _ (by decide)
                rw [← hpp] at HPO
                obtain ⟨p4, hp4⟩ : ∃ q, q = (p + 4) % 4294967296 := ⟨_, rfl⟩
                have hp4l : p4 < 4294967296 := by rw [hp4]; exact Nat.mod_lt _ (by decide)
                have WP := Lib.hid (addw_wrap hpp)
                have WP4 : Hid (IntKind.u32.wrap ((p : Int) + 4) = (p4 : Int)) := Lib.hid (addw_wrap (a := 4) hp4)
                have HP4E := Lib.hid hp4
                obtain ⟨A, eA, hAl, hAv, hA⟩ := ld_any g HGB.out p mb hpl w5 HR5.out
                have HAV : Hid (A = newW L w0 v) := Lib.hid (by rw [hAv (by have h1 := HPO.out; have h2 := HO.out; omega), leN_at HPO.out, HLO.out])
                have HAL := Lib.hid hAl
                have HAC := Lib.hid hA
                have HP4L := Lib.hid hp4l
                have HVW := Lib.hid (w64id v (Nat.lt_trans HVL.out (by decide))).1
                have HVM := Lib.hid (u32mod v HVL.out)
                have HAW := Lib.hid (w64id A (Nat.lt_trans hAl (by decide))).1
                have HAM := Lib.hid (u32mod A hAl)
                clear hc5 hpp hpl hp4 hp4l hAl hAv hA
                have c0 : w5.cell? ⟨B, 0, none⟩ = some (.int .u32 (ra : Int)) := by rw [row_cell (HRZ4.out _ HC45.out)]; rfl
                have wp := WP.out
                go_wp2_with fail
                refine HAC.out.mono ?_
                rintro e w6 ⟨rfl, hc6⟩
                have HC6 := Lib.hid (HC5.out.trans hc6)
                have HC46 := Lib.hid (HC45.out.trans hc6)
                have HR6 : Hid (w6.row? mb = some (mem g)) := Lib.hid ((hc6.row (row_lt HR5.out) (by simp)).trans HR5.out)
                clear hc6 c0 wp
                obtain ⟨nx, eN, hNl, hNv, hN⟩ := ld_any g HGB.out p4 mb HP4L.out w6 HR6.out
                have HNL := Lib.hid hNl
                have HNV := Lib.hid hNv
                have HNC := Lib.hid hN
                have HNW := Lib.hid (w64id nx (Nat.lt_trans hNl (by decide))).1
                clear hNl hNv hN
                have wp4 := WP4.out
                go_wp2_with fail
                refine HNC.out.mono ?_
                rintro e w7 ⟨rfl, hc7⟩
                have HC7 := Lib.hid (HC6.out.trans hc7)
                have HC47 := Lib.hid (HC46.out.trans hc7)
                clear hc7 wp4
                have c1 : w7.cell? ⟨B, 1, none⟩ = some (.int .i64 ty) := by rw [row_cell (HRZ4.out _ HC47.out)]; rfl
                rcases hcase with ⟨rfl, rfl | rfl, ho8, n0, hn0l, hn0⟩ | ⟨t18, t19, hL⟩
                · rw [show strB 85 = ⟨#[85]⟩ from rfl]
                  have HN0 : Hid (nx = setI n0 v) := Lib.hid (by rw [HNV.out (by have h1 := HPO.out; rw [HP4E.out]; omega), leN_at (o := o + 4) (by have h1 := HPO.out; rw [HP4E.out]; omega), hn0])
                  clear ho8 hn0l hn0
                  have aw := HAW.out
                  go_wp2_with fail
                  refine (rimm_U A HAL.out w7).mono ?_
                  rintro e w8 ⟨rfl, hw9⟩
                  obtain rfl := hw9.symm
                  clear hw9
                  obtain ⟨x1, hx1⟩ : ∃ x : Int, x = sgn 32 (A / 4096 * 4096) := ⟨_, rfl⟩
                  rw [← hx1]
                  clear aw
                  have HX1 := Lib.hid hx1
                  clear hx1
                  have nw := HNW.out
                  go_wp2_with fail
                  refine (rimm_I nx HNL.out w7).mono ?_
                  rintro e w8 ⟨rfl, hc9⟩
                  obtain ⟨x2, hx2⟩ : ∃ x : Int, x = sgn 12 (nx / 1048576 % 4096) := ⟨_, rfl⟩
                  rw [← hx2]
                  have HCE := Lib.hid (HC7.out.trans hc9)
                  have hsum : (x1 + x2) % 4294967296 = (v : Int) := by
                    have h := mUI w0 n0 v HVL.out
                    rw [show setU w0 (upN v) = A from HAV.out.symm, ← HN0.out] at h
                    rw [HX1.out, hx2]
                    exact h
                  have hb1 : -2147483648 ≤ x1 ∧ x1 < 2147483648 := by rw [HX1.out]; exact rU_bd A HAL.out
                  have hb2 : -2048 ≤ x2 ∧ x2 < 2048 := by rw [hx2]; exact rI_bd nx
                  have ws : wrap64 (x1 + x2) = x1 + x2 := IntWalk.wrap64_in _ ⟨by omega, by omega⟩
                  have m2 := HVM.out
                  clear hb1 hb2 hx2 hc9 nw
                  go_wp2
                  case roundEnd => exact ⟨⟨k + 1, HKN.out, by rw [HW.out], HCE.out⟩, by rw [HW.out]; simp only [intOf, Int.toNat_natCast]; have := HKN.out; omega⟩
                · rw [show strB 85 = ⟨#[85]⟩ from rfl]
                  have HN0 : Hid (nx = setI n0 v) := Lib.hid (by rw [HNV.out (by have h1 := HPO.out; rw [HP4E.out]; omega), leN_at (o := o + 4) (by have h1 := HPO.out; rw [HP4E.out]; omega), hn0])
                  clear ho8 hn0l hn0
                  have aw := HAW.out
                  go_wp2_with fail
                  refine (rimm_U A HAL.out w7).mono ?_
                  rintro e w8 ⟨rfl, hw9⟩
                  obtain rfl := hw9.symm
                  clear hw9
                  obtain ⟨x1, hx1⟩ : ∃ x : Int, x = sgn 32 (A / 4096 * 4096) := ⟨_, rfl⟩
                  rw [← hx1]
                  clear aw
                  have HX1 := Lib.hid hx1
                  clear hx1
                  have nw := HNW.out
                  go_wp2_with fail
                  refine (rimm_I nx HNL.out w7).mono ?_
                  rintro e w8 ⟨rfl, hc9⟩
                  obtain ⟨x2, hx2⟩ : ∃ x : Int, x = sgn 12 (nx / 1048576 % 4096) := ⟨_, rfl⟩
                  rw [← hx2]
                  have HCE := Lib.hid (HC7.out.trans hc9)
                  have hsum : (x1 + x2) % 4294967296 = (v : Int) := by
                    have h := mUI w0 n0 v HVL.out
                    rw [show setU w0 (upN v) = A from HAV.out.symm, ← HN0.out] at h
                    rw [HX1.out, hx2]
                    exact h
                  have hb1 : -2147483648 ≤ x1 ∧ x1 < 2147483648 := by rw [HX1.out]; exact rU_bd A HAL.out
                  have hb2 : -2048 ≤ x2 ∧ x2 < 2048 := by rw [hx2]; exact rI_bd nx
                  have ws : wrap64 (x1 + x2) = x1 + x2 := IntWalk.wrap64_in _ ⟨by omega, by omega⟩
                  have m2 := HVM.out
                  clear hb1 hb2 hx2 hc9 nw
                  go_wp2
                  case roundEnd => exact ⟨⟨k + 1, HKN.out, by rw [HW.out], HCE.out⟩, by rw [HW.out]; simp only [intOf, Int.toNat_natCast]; have := HKN.out; omega⟩
                · have HT : Hid (ty ≠ 18 ∧ ty ≠ 19) := Lib.hid ⟨t18, t19⟩
                  clear t18 t19
                  rcases hL with rfl | rfl | rfl | rfl | ⟨rfl, hfar⟩ | ⟨rfl, hfar⟩
                  · rw [show strB 87 = ⟨#[87]⟩ from rfl]
                    have hAv2 : A = v := HAV.out
                    subst hAv2
                    have aw := HAW.out
                    have am := HAM.out
                    have HCE := HC7
                    go_wp2
                    case roundEnd => exact ⟨⟨k + 1, HKN.out, by rw [HW.out], HCE.out⟩, by rw [HW.out]; simp only [intOf, Int.toNat_natCast]; have := HKN.out; omega⟩
                  · rw [show strB 85 = ⟨#[85]⟩ from rfl]
                    have t1 : (ty == 18) = false := by rw [beq_eq_false_iff_ne]; exact HT.out.1
                    have t2 : (ty == 19) = false := by rw [beq_eq_false_iff_ne]; exact HT.out.2
                    have aw := HAW.out
                    go_wp2_with fail
                    refine (rimm_U A HAL.out w7).mono ?_
                    rintro e w8 ⟨rfl, hw9⟩
                    obtain rfl := hw9.symm
                    clear hw9
                    obtain ⟨x1, hx1⟩ : ∃ x : Int, x = sgn 32 (A / 4096 * 4096) := ⟨_, rfl⟩
                    rw [← hx1]
                    have HX : Hid (x1 % 4294967296 = ((upN v : Nat) : Int)) := Lib.hid (by have h := mU w0 v; rw [hx1]; rw [show setU w0 (upN v) = A from HAV.out.symm] at h; exact h)
                    clear hx1 aw
                    go_wp2_with fail
                    refine (refUpper_any v HVL.out w7).mono ?_
                    rintro e w9 ⟨rfl, hw9⟩
                    obtain rfl := hw9.symm
                    clear hw9
                    obtain ⟨u, hu⟩ : ∃ u, u = upN v := ⟨_, rfl⟩
                    have hul : u < 4294967296 := by rw [hu]; exact upN_lt v
                    have um := u32mod u hul
                    have hx := HX.out
                    rw [← hu] at hx ⊢
                    clear hu hul
                    have HCE := HC7
                    go_wp2
                    case roundEnd => exact ⟨⟨k + 1, HKN.out, by rw [HW.out], HCE.out⟩, by rw [HW.out]; simp only [intOf, Int.toNat_natCast]; have := HKN.out; omega⟩
                  · rw [show strB 73 = ⟨#[73]⟩ from rfl]
                    have t1 : (ty == 18) = false := by rw [beq_eq_false_iff_ne]; exact HT.out.1
                    have t2 : (ty == 19) = false := by rw [beq_eq_false_iff_ne]; exact HT.out.2
                    have aw := HAW.out
                    go_wp2_with fail
                    refine (rimm_I A HAL.out w7).mono ?_
                    rintro e w8 ⟨rfl, hc9⟩
                    obtain ⟨x1, hx1⟩ : ∃ x : Int, x = sgn 12 (A / 1048576 % 4096) := ⟨_, rfl⟩
                    rw [← hx1]
                    have HCE := Lib.hid (HC7.out.trans hc9)
                    have hs : x1 = sgn 12 (v % 4096) := by rw [hx1]; have h := rI_set w0 v; rw [show setI w0 v = A from HAV.out.symm] at h; exact h
                    obtain ⟨u, hu⟩ : ∃ u, u = upN v := ⟨_, rfl⟩
                    have hul : u < 4294967296 := by rw [hu]; exact upN_lt v
                    obtain ⟨m, hm⟩ : ∃ m : Int, m = ((v : Int) - (u : Int)) % 4294967296 := ⟨_, rfl⟩
                    have HM1 : Hid (x1 % 4294967296 = m) := Lib.hid (by rw [hs, mI v HVL.out, hm, hu])
                    have HM2 := Lib.hid hm.symm
                    have HWV := Lib.hid (w64sub v u (Nat.lt_trans HVL.out (by decide)) (Nat.lt_trans hul (by decide)))
                    have HUE := Lib.hid hu
                    clear hx1 hs hu hul hm hc9 aw
                    go_wp2_with fail
                    refine (refUpper_any v HVL.out w8).mono ?_
                    rintro e w9 ⟨rfl, hw9⟩
                    obtain rfl := hw9.symm
                    clear hw9
                    rw [← HUE.out]
                    have wv := HWV.out
                    have m1 := HM1.out
                    have m2 := HM2.out
                    go_wp2
                    case roundEnd => exact ⟨⟨k + 1, HKN.out, by rw [HW.out], HCE.out⟩, by rw [HW.out]; simp only [intOf, Int.toNat_natCast]; have := HKN.out; omega⟩
                  · rw [show strB 83 = ⟨#[83]⟩ from rfl]
                    have t1 : (ty == 18) = false := by rw [beq_eq_false_iff_ne]; exact HT.out.1
                    have t2 : (ty == 19) = false := by rw [beq_eq_false_iff_ne]; exact HT.out.2
                    have aw := HAW.out
                    go_wp2_with fail
                    refine (rimm_S A HAL.out w7).mono ?_
                    rintro e w8 ⟨rfl, hc9⟩
                    obtain ⟨x1, hx1⟩ : ∃ x : Int, x = sgn 12 ((A / 33554432 % 128) * 32 + (A / 128 % 32)) := ⟨_, rfl⟩
                    rw [← hx1]
                    have HCE := Lib.hid (HC7.out.trans hc9)
                    have hs : x1 = sgn 12 (v % 4096) := by rw [hx1]; have h := rS_set w0 v; rw [show setS w0 v = A from HAV.out.symm] at h; exact h
                    obtain ⟨u, hu⟩ : ∃ u, u = upN v := ⟨_, rfl⟩
                    have hul : u < 4294967296 := by rw [hu]; exact upN_lt v
                    obtain ⟨m, hm⟩ : ∃ m : Int, m = ((v : Int) - (u : Int)) % 4294967296 := ⟨_, rfl⟩
                    have HM1 : Hid (x1 % 4294967296 = m) := Lib.hid (by rw [hs, mI v HVL.out, hm, hu])
                    have HM2 := Lib.hid hm.symm
                    have HWV := Lib.hid (w64sub v u (Nat.lt_trans HVL.out (by decide)) (Nat.lt_trans hul (by decide)))
                    have HUE := Lib.hid hu
                    clear hx1 hs hu hul hm hc9 aw
                    go_wp2_with fail
                    refine (refUpper_any v HVL.out w8).mono ?_
                    rintro e w9 ⟨rfl, hw9⟩
                    obtain rfl := hw9.symm
                    clear hw9
                    rw [← HUE.out]
                    have wv := HWV.out
                    have m1 := HM1.out
                    have m2 := HM2.out
                    go_wp2
                    case roundEnd => exact ⟨⟨k + 1, HKN.out, by rw [HW.out], HCE.out⟩, by rw [HW.out]; simp only [intOf, Int.toNat_natCast]; have := HKN.out; omega⟩
                  · rw [show strB 66 = ⟨#[66]⟩ from rfl]
                    have HFR := Lib.hid hfar
                    clear hfar
                    have t1 : (ty == 18) = false := by rw [beq_eq_false_iff_ne]; exact HT.out.1
                    have t2 : (ty == 19) = false := by rw [beq_eq_false_iff_ne]; exact HT.out.2
                    have aw := HAW.out
                    go_wp2_with fail
                    refine (rimm_B A HAL.out w7).mono ?_
                    rintro e w8 ⟨rfl, hc9⟩
                    obtain ⟨x1, hx1⟩ : ∃ x : Int, x = sgn 13 ((A / 2147483648 % 2) * 4096 + (A / 128 % 2) * 2048 + (A / 33554432 % 64) * 32 + (A / 256 % 16) * 2) := ⟨_, rfl⟩
                    rw [← hx1]
                    have HCE := Lib.hid (HC7.out.trans hc9)
                    have hs : x1 = s32 v := by rw [hx1]; have h := near13 w0 v HVL.out HFR.out; rw [show setB w0 v = A from HAV.out.symm] at h; exact h
                    have m1 : x1 % 4294967296 = (v : Int) := by rw [hs]; exact s32_mod v HVL.out
                    have m2 := HVM.out
                    clear hx1 hs hc9 aw
                    go_wp2
                    case roundEnd => exact ⟨⟨k + 1, HKN.out, by rw [HW.out], HCE.out⟩, by rw [HW.out]; simp only [intOf, Int.toNat_natCast]; have := HKN.out; omega⟩
                  · rw [show strB 74 = ⟨#[74]⟩ from rfl]
                    have HFR := Lib.hid hfar
                    clear hfar
                    have t1 : (ty == 18) = false := by rw [beq_eq_false_iff_ne]; exact HT.out.1
                    have t2 : (ty == 19) = false := by rw [beq_eq_false_iff_ne]; exact HT.out.2
                    have aw := HAW.out
                    go_wp2_with fail
                    refine (rimm_J A HAL.out w7).mono ?_
                    rintro e w8 ⟨rfl, hc9⟩
                    obtain ⟨x1, hx1⟩ : ∃ x : Int, x = sgn 21 ((A / 2147483648 % 2) * 1048576 + (A / 4096 % 256) * 4096 + (A / 1048576 % 2) * 2048 + (A / 2097152 % 1024) * 2) := ⟨_, rfl⟩
                    rw [← hx1]
                    have HCE := Lib.hid (HC7.out.trans hc9)
                    have hs : x1 = s32 v := by rw [hx1]; have h := near21 w0 v HVL.out HFR.out; rw [show setJ w0 v = A from HAV.out.symm] at h; exact h
                    have m1 : x1 % 4294967296 = (v : Int) := by rw [hs]; exact s32_mod v HVL.out
                    have m2 := HVM.out
                    clear hx1 hs hc9 aw
                    go_wp2
                    case roundEnd => exact ⟨⟨k + 1, HKN.out, by rw [HW.out], HCE.out⟩, by rw [HW.out]; simp only [intOf, Int.toNat_natCast]; have := HKN.out; omega⟩
              · have b0 : ((er : Int) == 0) = false := by rw [beq_eq_false_iff_ne]; omega
                go_wp2
                case roundEnd => exact ⟨⟨k + 1, HKN.out, by rw [HW.out], HC4.out⟩, by rw [HW.out]; simp only [intOf, Int.toNat_natCast]; have := HKN.out; omega⟩
        · have dI : ¬ (k : Int) < (nrl : Int) := by omega
          clear hkn
          go_wp2
          go_ret
          exact ⟨rfl, HCX.out.trans (HCV.out.trans HCH.out)⟩
  · rw [decide_eq_false hsm]
    clear hsm
    go_wp2
    go_ret
    exact ⟨rfl, HCX.out.trans HC2.out⟩
end Go.Proofs.L
