/- Proved here: lemmas and contracts (Rr9) for the laws of this seat, for all values of the stated types; no further condition. -/
import Derived.Test.YtjiiojbenbldlaaRr8
import Derived.Test.YtjiiojbenbldlaaRr5
import Derived.Test.YtjiiojbenbldlaaR23
import Derived.Test.YtjiiojbenbldlaaR24
import Derived.Test.YtjiiojbenbldlaaR26
open Go Go.RowKit Go.Lib
namespace Go.Proofs.L
attribute [local irreducible] wpT
theorem a26 : aggT Try.prog 26 5 := aggT_of (by kernel_rfl)
theorem fresh_file {w : World} {v : Jv} {Rs : List Rl} {Ys : List Nat} (h : FileOk w v Rs Ys) (K : Nat) : ∃ b1 b2, FileOk w { v with brl := b1, bsy := b2 } Rs Ys ∧ (b1 < w.heap.size ∨ b1 = K) ∧ (b2 < w.heap.size ∨ b2 = K) := by
  have h1 : ∃ b1, RlsAt w b1 v.orl Rs ∧ (0 < v.nrl → v.prl = some ⟨b1, v.orl, none⟩) ∧ (b1 < w.heap.size ∨ b1 = K) := by
    cases Rs with
    | nil => exact ⟨K, fun j r hj => by simp at hj, fun h0 => by have := h.rn; simp at this; omega, .inr rfl⟩
    | cons r L => exact ⟨v.brl, h.rl, h.rp, .inl (World.block_lt_of_cell? _ _ ((h.rl 0 r rfl).1 0 _ rfl))⟩
  have h2 : ∃ b2, NatAt w .u32 b2 v.osy Ys ∧ (0 < v.nsy → v.psy = some ⟨b2, v.osy, none⟩) ∧ (b2 < w.heap.size ∨ b2 = K) := by
    cases Ys with
    | nil => exact ⟨K, fun j r hj => by simp at hj, fun h0 => by have := h.yn; simp at this; omega, .inr rfl⟩
    | cons r L => exact ⟨v.bsy, h.sy, h.yp, .inl (World.block_lt_of_cell? _ _ (h.sy 0 r rfl).1)⟩
  obtain ⟨b1, p1, p2, p3⟩ := h1
  obtain ⟨b2, q1, q2, q3⟩ := h2
  exact ⟨b1, b2, ⟨p1, h.rn, p2, q1, h.yn, q2⟩, p3, q3⟩
theorem ss_ram (k n : Nat) (hk : k < n) (hn : n ≤ 300) : ∀ s ∈ ssN k n, 2147483648 ≤ s.st ∧ s.st + s.sz ≤ 2147549184 := by
  intro s hs
  simp only [ssN, List.mem_cons, List.not_mem_nil, or_false] at hs
  rcases hs with rfl | rfl <;> simp only <;> omega
theorem ss_lt (k n : Nat) (hk : k < n) (hn : n ≤ 300) : ∀ s ∈ ssN k n, s.st < 4294967296 ∧ s.sz < 4294967296 := by
  intro s hs
  simp only [ssN, List.mem_cons, List.not_mem_nil, or_false] at hs
  rcases hs with rfl | rfl <;> simp only <;> omega
theorem rs_row {w : World} {b : Nat} {L : List Sp} (h : w.row? b = some (L.flatMap RsC).toArray) (hb : ∀ r ∈ L, r.st < 4294967296 ∧ r.sz < 4294967296) : RsAt w b 0 L := fun j r hj => by
  refine ⟨fun i u hu => ?_, hb r (List.mem_of_getElem? hj)⟩
  rw [Nat.zero_add, row_cell h]
  simpa using flat_get 2 RsC (fun _ => rfl) L j r i u hj hu
/-- Apply of the program over a file and two spans -/
theorem apply_lay {w : World} {v : Jv} {Rs : List Rl} {Ys : List Nat} {mb sb bias k n : Nat} {f : Nat → Nat} (hF : FileOk w v Rs Ys) (hm : w.row? mb = some (mem f)) (hf : ∀ i, f i < 256) (hsp : w.row? sb = some ((ssN k n).flatMap SpC).toArray) (hk : k < n) (hn : n ≤ 300) (hb : bias < 4294967296) (hnr : v.nrl < 1000) (a1 : v.brl ≠ mb) (a2 : v.bsy ≠ mb) (a3 : sb ≠ mb) :
    Calls Try.prog 11 #[.pointer (some ⟨mb, 0, none⟩), .agg (fileA v), .int .u32 (bias : Int), .slice (some ⟨sb, 0, none⟩) 2 2] w (OneQ w mb (applyN bias Rs Ys (ssN k n) Rs f)) := by
  have := apply_any (w := w) (mb := mb) (v := ⟨v.e, v.sg, v.prl, v.brl, v.orl, v.nrl, v.crl, v.psy, v.bsy, v.osy, v.nsy, v.csy, bias, some ⟨sb, 0, none⟩, sb, 0, 2, 2, .iface 33 (.pointer (some ⟨mb, 0, none⟩))⟩) (Rs := Rs) (Ys := Ys) (Ss := ssN k n) (f := f)
    (fun J w' hc hJ => ⟨hJ, hF.rl.keep hc (by simp), hF.rn, hF.rp, hF.sy.keep hc (by simp), hF.yn, hF.yp, (sps_row hsp (ss_lt k n hk hn)).keep hc (by simp), rfl, fun _ => rfl, hb⟩) rfl hm hf a1 a2 a3 (by simp) (by simp only; omega)
  exact this
set_option maxRecDepth 100000 in
set_option maxHeartbeats 16000000 in
theorem runs_walk (j : Jb) (w : World) (Ws : List Nat) (Rs : List Rl) (Ys : List Nat) (hW : NatAt w .u32 j.bW j.oW Ws) (hWn : Ws.length = j.nW) (hp : 0 < j.nW → j.pW = some ⟨j.bW, j.oW, none⟩) (hF : FileOk w j.v Rs Ys) (he : j.v.e = .int .u32 0) (hsg : j.v.sg = .slice none 0 0) :
    Calls Try.prog 7 #[.agg (jobA j)] w fun e w' => e = .returned (.bool true) ∧ Chg [] w w' := by
  obtain ⟨Jb', hJb⟩ : ∃ b, b = w.heap.size := ⟨_, rfl⟩
  obtain ⟨X, hX⟩ : ∃ X, X = w.alloc (.cells (jobA j) 26) := ⟨_, rfl⟩
  have hcX : Chg [] w X := by rw [hX]; exact (Chg.refl _ _).alloc _
  have hrX : X.row? Jb' = some (jobA j) := by rw [hX]; exact row_alloc_at _ _ _ _ hJb
  have HRX := Lib.hid hrX
  have HCX := Lib.hid hcX
  have HWX := Lib.hid (hW.keep hcX (by simp))
  have HWN := Lib.hid hWn
  have HP := Lib.hid hp
  have HFX := Lib.hid (hF.keep hcX (by simp) (by simp))
  have HEE := Lib.hid he
  have HSG := Lib.hid hsg
  have HX := Lib.hid hX
  have HJB := Lib.hid hJb
  have hjA : jobA j = #[.slice j.pW j.nW j.cW, .slice j.v.psy j.v.nsy j.v.csy, .slice j.v.prl j.v.nrl j.v.crl, .int .u32 (j.more : Int), .int .i64 j.split] := rfl
  rw [hjA]
  rw [hjA] at HX HRX
  clear hW hWn hp hF he hsg hX hJb hcX hrX hjA
  go_enter Try.func7, Try.ntmps7
  go_upto_region 1 with (fail)
  rw [← HX.out, ← HJB.out]
  clear HX
  go_wp2_with fail
  refine (fit_any X).mono ?_
  rintro e w1 ⟨rfl, hc1⟩
  have HC1 := Lib.hid hc1
  have HR1 : Hid (w1.row? Jb' = some #[.slice j.pW j.nW j.cW, .slice j.v.psy j.v.nsy j.v.csy, .slice j.v.prl j.v.nrl j.v.crl, .int .u32 (j.more : Int), .int .i64 j.split]) := Lib.hid ((hc1.row (row_lt HRX.out) (by simp)).trans HRX.out)
  clear hc1
  go_wp2_with (first | (refine wpList_load_part a26 [.slice j.pW j.nW j.cW, .slice j.v.psy j.v.nsy j.v.csy, .slice j.v.prl j.v.nrl j.v.crl, .int .u32 (j.more : Int), .int .i64 j.split] rfl _ rfl rfl rfl (fun i u hu => by rw [Nat.zero_add, row_cell HR1.out]; simpa using hu) ?_) | fail)
  refine (small_any j w1).mono ?_
  rintro e w2 ⟨rfl, hc2⟩
  have HC2 := Lib.hid (HC1.out.trans hc2)
  have HR2 : Hid (w2.row? Jb' = some #[.slice j.pW j.nW j.cW, .slice j.v.psy j.v.nsy j.v.csy, .slice j.v.prl j.v.nrl j.v.crl, .int .u32 (j.more : Int), .int .i64 j.split]) := Lib.hid ((hc2.row (row_lt HR1.out) (by simp)).trans HR1.out)
  clear hc2
  by_cases hsm : smallN j
  · have HSM := Lib.hid hsm
    rw [decide_eq_true hsm]
    clear hsm
    go_wp2_with (first | (refine wpList_load_part a26 [.slice j.pW j.nW j.cW, .slice j.v.psy j.v.nsy j.v.csy, .slice j.v.prl j.v.nrl j.v.crl, .int .u32 (j.more : Int), .int .i64 j.split] rfl _ rfl rfl rfl (fun i u hu => by rw [Nat.zero_add, row_cell HR2.out]; simpa using hu) ?_) | fail)
    refine (lay_any j w2 Ws (HWX.out.keep HC2.out (by simp)) HWN.out HP.out HSM.out.1 HSM.out.2.2.2).mono ?_
    rintro e w3 ⟨mb, rp, rm, sb, rb', N, rfl, hQ⟩
    have HQ := Lib.hid hQ
    have HC3 := Lib.hid (HC2.out.trans hQ.chg)
    have HR3 : Hid (w3.row? Jb' = some #[.slice j.pW j.nW j.cW, .slice j.v.psy j.v.nsy j.v.csy, .slice j.v.prl j.v.nrl j.v.crl, .int .u32 (j.more : Int), .int .i64 j.split]) := Lib.hid ((hQ.chg.row (row_lt HR2.out) (by simp)).trans HR2.out)
    clear hQ
    obtain ⟨bs, hbs⟩ : ∃ b, b = bsN j.more := ⟨_, rfl⟩
    have hbl : bs < 4294967296 := by rw [hbs]; exact Nat.mod_lt _ (by decide)
    rw [← hbs]
    have HBL := Lib.hid hbl
    have HWB := Lib.hid (w64id bs (Nat.lt_trans hbl (by decide))).1
    have HWB2 := Lib.hid (w64id bs (Nat.lt_trans hbl (by decide))).2
    clear hbs hbl
    have c1 : w3.cell? ⟨Jb', 1, none⟩ = some (.slice j.v.psy j.v.nsy j.v.csy) := by rw [row_cell HR3.out]; rfl
    have c2 : w3.cell? ⟨Jb', 2, none⟩ = some (.slice j.v.prl j.v.nrl j.v.crl) := by rw [row_cell HR3.out]; rfl
    obtain ⟨V, hV⟩ : ∃ V, V = w3.alloc (.cells #[.int .u32 0, .slice none 0 0, .slice j.v.prl j.v.nrl j.v.crl, .slice j.v.psy j.v.nsy j.v.csy] 30) := ⟨_, rfl⟩
    obtain ⟨Fb, hFb⟩ : ∃ b, b = w3.heap.size := ⟨_, rfl⟩
    have hcV : Chg [] w3 V := by rw [hV]; exact (Chg.refl _ _).alloc _
    have hrV : V.row? Fb = some #[.int .u32 0, .slice none 0 0, .slice j.v.prl j.v.nrl j.v.crl, .slice j.v.psy j.v.nsy j.v.csy] := by rw [hV]; exact row_alloc_at _ _ _ _ hFb
    have HRV := Lib.hid hrV
    have HCV := Lib.hid hcV
    have HV := Lib.hid hV
    have HFB := Lib.hid hFb
    obtain ⟨b1, b2, hF1, hb1, hb2⟩ := fresh_file HFX.out (mb + rm + 1)
    have hsz := HQ.out.new
    have hsz2 := HC2.out.size
    have n1 : b1 ≠ mb ∧ b1 ≠ rm := by omega
    have n2 : b2 ≠ mb ∧ b2 ≠ rm := by omega
    have HN1 := Lib.hid n1
    have HN2 := Lib.hid n2
    obtain ⟨vv, hvv⟩ : ∃ vv : Jv, vv = { j.v with brl := b1, bsy := b2 } := ⟨_, rfl⟩
    rw [← hvv] at hF1
    have HFV : Hid (FileOk V vv Rs Ys) := Lib.hid (hF1.keep (HC3.out.trans hcV) (by simp) (by simp))
    have HA : Hid (fileA vv = #[.int .u32 0, .slice none 0 0, .slice j.v.prl j.v.nrl j.v.crl, .slice j.v.psy j.v.nsy j.v.csy]) := Lib.hid (by rw [hvv]; unfold fileA; simp only; rw [HEE.out, HSG.out])
    have HVN : Hid (vv.nrl < 1000 ∧ vv.brl = b1 ∧ vv.bsy = b2) := Lib.hid (by rw [hvv]; exact ⟨by have := HSM.out.2.2.1; simp only; omega, rfl, rfl⟩)
    have HFBM : Hid (Fb ≠ mb ∧ Fb ≠ rm) := Lib.hid (by have h1 := row_lt HQ.out.lay.row; have h2 := HQ.out.lay.ram.mlt; omega)
    obtain ⟨F, hFF⟩ : ∃ F, F = wordsF Ws j.nW := ⟨_, rfl⟩
    obtain ⟨kk, hkk⟩ : ∃ k, k = kN j.split j.nW := ⟨_, rfl⟩
    rw [← hFF, ← hkk] at HQ
    have HBY : Hid (∀ i, F i < 256) := Lib.hid (by rw [hFF]; exact wordsF_lt Ws j.nW)
    have HLV : Hid (Lay V mb rp rm N F) := Lib.hid (HQ.out.lay.keep hcV)
    have HSPV : Hid (V.row? sb = some ((ssN kk j.nW).flatMap SpC).toArray) := Lib.hid ((hcV.row (row_lt HQ.out.sp) (by simp)).trans HQ.out.sp)
    have HRSV : Hid (V.row? rb' = some ((ssN kk j.nW).flatMap RsC).toArray) := Lib.hid ((hcV.row (row_lt HQ.out.rs) (by simp)).trans HQ.out.rs)
    have HNEW : Hid (w.heap.size ≤ mb ∧ w.heap.size ≤ rm) := Lib.hid (by have := HCX.out.size; have := HC2.out.size; omega)
    obtain ⟨R, hR⟩ : ∃ R, R = applyN bs Rs Ys (ssN kk j.nW) Rs F := ⟨_, rfl⟩
    have HR := Lib.hid hR
    clear hV hFb hcV hrV hF1 hb1 hb2 hsz hsz2 n1 n2 hvv hFF hkk hR
    go_upto_region 7 with (fail)
    rw [← HV.out, ← HFB.out]
    clear HV HFB c1 c2
    have wb := HWB.out
    have wb2 := HWB2.out
    refine wp_region_C (fun w' => w'.row? Fb = some #[.int .u32 0, .slice none 0 0, .slice j.v.prl j.v.nrl j.v.crl, .slice j.v.psy j.v.nsy j.v.csy]) [(0, 0), (1, 1), (2, 0), (3, 0), (5, 0), (6, 1), (7, 0), (8, 0), (9, 0), (4, 2), (10, 2), (11, 0), (12, 0), (13, 0), (14, 0), (15, 3), (16, 0), (17, 0)] rfl (by kernel_rfl) ?hSA ?hTA
    case hSA => first | exact HRV.out | (rw [row_drew]; exact HRV.out)
    refine wpT_pureD (v := ?_) (some 27) rfl rfl (by rfl) (fun w' => ?_) ?_
    rotate_left
    · (go_simp; try with_reducible rfl)
    try simp only [Act.put, List.setIfInBounds_toArray, List.set_cons_zero, List.set_cons_succ]
    refine wpT_load_part a30 [.int .u32 0, .slice none 0 0, .slice j.v.prl j.v.nrl j.v.crl, .slice j.v.psy j.v.nsy j.v.csy] (some 28) _ rfl rfl rfl (by rfl) rfl rfl (fun w' hw i u hu => by rw [Nat.zero_add, row_cell hw]; simpa using hu) ?_
    try simp only [Act.put, List.setIfInBounds_toArray, List.set_cons_zero, List.set_cons_succ]
    try simp only [Act.put, List.setIfInBounds_toArray, List.set_cons_zero, List.set_cons_succ]
    refine wpT_pureD (v := ?_) (some 29) rfl rfl (by rfl) (fun w' => ?_) ?_
    rotate_left
    · (go_simp; try with_reducible rfl)
    try simp only [Act.put, List.setIfInBounds_toArray, List.set_cons_zero, List.set_cons_succ]
    refine wpT_pureD (v := ?_) (some 30) rfl rfl (by rfl) (fun w' => ?_) ?_
    rotate_left
    · (go_simp; try with_reducible rfl)
    try simp only [Act.put, List.setIfInBounds_toArray, List.set_cons_zero, List.set_cons_succ]
    refine wpT_pureD (v := ?_) (some 32) rfl rfl (by rfl) (fun w' => ?_) ?_
    rotate_left
    · (go_simp; try with_reducible rfl)
    try simp only [Act.put, List.setIfInBounds_toArray, List.set_cons_zero, List.set_cons_succ]
    refine wpT_load_part a30 [.int .u32 0, .slice none 0 0, .slice j.v.prl j.v.nrl j.v.crl, .slice j.v.psy j.v.nsy j.v.csy] (some 33) _ rfl rfl rfl (by rfl) rfl rfl (fun w' hw i u hu => by rw [Nat.zero_add, row_cell hw]; simpa using hu) ?_
    try simp only [Act.put, List.setIfInBounds_toArray, List.set_cons_zero, List.set_cons_succ]
    try simp only [Act.put, List.setIfInBounds_toArray, List.set_cons_zero, List.set_cons_succ]
    refine wpT_pureD (v := ?_) (some 34) rfl rfl (by rfl) (fun w' => ?_) ?_
    rotate_left
    · (go_simp; try with_reducible rfl)
    try simp only [Act.put, List.setIfInBounds_toArray, List.set_cons_zero, List.set_cons_succ]
    refine wpT_pureD (v := ?_) (some 35) rfl rfl (by rfl) (fun w' => ?_) ?_
    rotate_left
    · (go_simp; try with_reducible rfl)
    try simp only [Act.put, List.setIfInBounds_toArray, List.set_cons_zero, List.set_cons_succ]
    refine wpT_pureD (v := ?_) (some 36) rfl rfl (by rfl) (fun w' => ?_) ?_
    rotate_left
    · (go_simp; try with_reducible rfl)
    try simp only [Act.put, List.setIfInBounds_toArray, List.set_cons_zero, List.set_cons_succ]
    refine wpT_eff rfl (by rfl) (fun K hK => ?_)
    go_wp2_with fail
    have hd : Chg [] V V.drew := (Chg.refl _ _).drew
    have HL1 := Lib.hid (HLV.out.keep hd)
    have HF1 := Lib.hid (HFV.out.keep hd (by simp) (by simp))
    have HRS1 : Hid (V.drew.row? rb' = some ((ssN kk j.nW).flatMap RsC).toArray) := Lib.hid ((hd.row (row_lt HRSV.out) (by simp)).trans HRSV.out)
    have HFR1 : Hid (V.drew.row? Fb = some #[.int .u32 0, .slice none 0 0, .slice j.v.prl j.v.nrl j.v.crl, .slice j.v.psy j.v.nsy j.v.csy]) := Lib.hid ((hd.row (row_lt HRV.out) (by simp)).trans HRV.out)
    have hap := apply_lay HF1.out HL1.out.row HBY.out ((hd.row (row_lt HSPV.out) (by simp)).trans HSPV.out) HQ.out.kk HSM.out.1 HBL.out HVN.out.1 (by rw [HVN.out.2.1]; exact HN1.out.1) (by rw [HVN.out.2.2]; exact HN2.out.1) HQ.out.ap.1
    rw [← HR.out, HA.out] at hap
    have HAP := Lib.hid hap
    clear hd hap
    refine HAP.out.mono ?_
    rintro e w4 ⟨rfl, hr4, hc4⟩
    have HR4 := Lib.hid hr4
    have HC4 := Lib.hid hc4
    have hfr4 : w4.row? Fb = some #[.int .u32 0, .slice none 0 0, .slice j.v.prl j.v.nrl j.v.crl, .slice j.v.psy j.v.nsy j.v.csy] := (hc4.row (row_lt HFR1.out) (by simpa using HFBM.out.1)).trans HFR1.out
    have HFR4 := Lib.hid hfr4
    clear hr4 hc4 hfr4
    go_wp2_with fail
    refine hK _ _ HFR4.out ?_
    clear hK K
    refine wpT_eff rfl (by rfl) (fun K hK => ?_)
    go_wp2_with fail
    have hap2 := rapply_any (rm := rm) (HF1.out.keep HC4.out (by rw [HVN.out.2.1]; simpa using HN1.out.1) (by rw [HVN.out.2.2]; simpa using HN2.out.1)) (HL1.out.ram.keep HC4.out (by have := HL1.out.ne1; simp; omega) (by have := HL1.out.ne2; simp; omega)) HBY.out (by have := HQ.out.nn; have := HSM.out.1; omega) (rs_row ((HC4.out.row (row_lt HRS1.out) (by simpa using HQ.out.ap.2.2.2)).trans HRS1.out) (ss_lt kk j.nW HQ.out.kk HSM.out.1)) (P := some ⟨rb', 0, none⟩) (cS := 2) (ns := 2) rfl (fun _ => rfl) (by decide) (ss_ram kk j.nW HQ.out.kk HSM.out.1) HBL.out HVN.out.1 (by rw [HVN.out.2.1]; exact HN1.out.2) (by rw [HVN.out.2.2]; exact HN2.out.2) HQ.out.ap.2.2.1
    rw [← HR.out, HA.out] at hap2
    have HAP2 := Lib.hid hap2
    clear hap2
    refine HAP2.out.mono ?_
    rintro e w5 ⟨n', rfl, hr5, hn5, hc5⟩
    have HR5 := Lib.hid hr5
    have HC5 := Lib.hid hc5
    have hfr5 : w5.row? Fb = some #[.int .u32 0, .slice none 0 0, .slice j.v.prl j.v.nrl j.v.crl, .slice j.v.psy j.v.nsy j.v.csy] := (hc5.row (row_lt HFR4.out) (by simpa using HFBM.out.2)).trans HFR4.out
    have HFR5 := Lib.hid hfr5
    clear hr5 hn5 hc5 hfr5
    go_wp2_with fail
    refine hK _ _ HFR5.out ?_
    clear hK K
    refine wpT_pureD (v := ?_) (some 38) rfl rfl (by rfl) (fun w' => ?_) ?_
    rotate_left
    · (go_simp; try with_reducible rfl)
    try simp only [Act.put, List.setIfInBounds_toArray, List.set_cons_zero, List.set_cons_succ]
    refine wpT_pureD (v := ?_) (some 39) rfl rfl (by rfl) (fun w' => ?_) ?_
    rotate_left
    · (go_simp; try with_reducible rfl)
    try simp only [Act.put, List.setIfInBounds_toArray, List.set_cons_zero, List.set_cons_succ]
    refine wpT_pureD (v := ?_) (some 40) rfl rfl (by rfl) (fun w' => ?_) ?_
    rotate_left
    · (go_simp; try with_reducible rfl)
    try simp only [Act.put, List.setIfInBounds_toArray, List.set_cons_zero, List.set_cons_succ]
    refine wpT_pureD (v := ?_) (some 41) rfl rfl (by rfl) (fun w' => ?_) ?_
    rotate_left
    · (go_simp; try with_reducible rfl)
    try simp only [Act.put, List.setIfInBounds_toArray, List.set_cons_zero, List.set_cons_succ]
    refine wpT_brk rfl (by rfl) (fun K hK => ?_)
    go_wp2_with fail
    refine (like_any ((HC5.out.row (row_lt HR4.out) (by have := HL1.out.ne2; simp; omega)).trans HR4.out) HR5.out).mono ?_
    rintro e w6 ⟨rfl, hc6⟩
    have HC6 := Lib.hid hc6
    clear hc6
    go_wp2_with fail
    refine wpT_pureD (v := ?_) (some 43) rfl rfl (by rfl) (fun w' => ?_) ?_
    rotate_left
    · (go_simp; try with_reducible rfl)
    try simp only [Act.put, List.setIfInBounds_toArray, List.set_cons_zero, List.set_cons_succ]
    refine wpT_pureD (v := ?_) (some 2) rfl rfl (by rfl) (fun w' => ?_) ?_
    rotate_left
    · (go_simp; try with_reducible rfl)
    try simp only [Act.put, List.setIfInBounds_toArray, List.set_cons_zero, List.set_cons_succ]
    refine wpT_end ?_
    go_wp2
    go_ret
    refine ⟨rfl, ?_⟩
    have t1 : Chg [] w V.drew := (HCX.out.trans (HC3.out.trans HCV.out)).drew
    have t2 := t1.transM HC4.out HNEW.out.1
    have t3 := t2.transM HC5.out HNEW.out.2
    exact t3.trans HC6.out
  · rw [decide_eq_false hsm]
    clear hsm
    go_wp2
    go_ret
    exact ⟨rfl, HCX.out.trans HC2.out⟩
end Go.Proofs.L
