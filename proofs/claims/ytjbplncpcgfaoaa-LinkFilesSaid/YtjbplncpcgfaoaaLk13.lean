/- Proved here: lemmas and contracts (Lk13) for the laws of this seat, for all values of the stated types; no further condition. -/
import Derived.Test.YtjbplncpcgfaoaaLk12
open Go Go.RowKit Go.Lib Go.Maps
namespace Go.Proofs.L
attribute [local irreducible] wpT
/-! the reference's right -/
theorem a85 : aggT Try.prog 85 3 := aggT_of (by kernel_rfl)
theorem a89 : aggT Try.prog 89 5 := aggT_of (by kernel_rfl)
theorem name_zero (a : ByteArray) : a = ⟨#[]⟩ ↔ a.size < 1 := by
  constructor
  · rintro rfl; decide
  · intro h
    obtain ⟨⟨l⟩⟩ := a
    have h2 : l.length = 0 := by
      have : (⟨⟨l⟩⟩ : ByteArray).size = l.length := rfl
      omega
    rw [List.eq_nil_of_length_eq_zero h2]
theorem RbOk.keep {w w' : World} {s : Ob} {t : Rb} (h : RbOk w s t) (hc : Chg [] w w') : RbOk w' s t :=
  ⟨h.Fp, fun j d hd i u hu => keepc (h.Fa j d hd i u hu) hc (by simp), h.Rp, fun j d hd i u hu => keepc (h.Ra j d hd i u hu) hc (by simp)⟩
theorem dfB_iff (s : Ob) (d : Df) : dfB s d = decide (¬ d.name.size < 1 ∧ d.name.size ≤ 32 ∧ 0 ≤ d.sec ∧ d.sec ≤ 2 ∧ d.at_ ≤ sizeR s d.sec) := by
  unfold dfB
  rw [decide_eq_decide]
  have h1 := name_zero d.name
  constructor
  · rintro ⟨a, b, c, e, f⟩
    exact ⟨fun h => a (h1.2 h), b, c, e, by rw [sizeR_eq s d.sec c e]; exact f⟩
  · rintro ⟨a, b, c, e, f⟩
    exact ⟨fun h => a (h1.1 h), b, c, e, by rw [← sizeR_eq s d.sec c e]; exact f⟩
theorem rfB_iff (s : Ob) (r : Rf) : rfB s r = decide (0 ≤ r.sec ∧ r.sec ≤ 1 ∧ 1 ≤ r.ty ∧ r.ty ≤ 255 ∧ r.ty ≠ 3 ∧ r.at_ + 4 ≤ sizeR s r.sec) := by
  unfold rfB
  rw [decide_eq_decide]
  constructor
  · rintro ⟨a, b, c, e, f, g⟩
    exact ⟨a, b, c, e, f, by rw [sizeR_eq s r.sec a (by omega)]; exact g⟩
  · rintro ⟨a, b, c, e, f, g⟩
    exact ⟨a, b, c, e, f, by rw [← sizeR_eq s r.sec a (by omega)]; exact g⟩
theorem no_base {s : Ob} (h : baseB s = false) : rightB s = false := by unfold rightB; rw [h]; rfl
set_option maxRecDepth 100000 in
set_option maxHeartbeats 4000000 in
theorem rright_any (s : Ob) (t : Rb) (w : World) (hs : ObOk w s) (ht : RbOk w s t) (hl : LongO s) : Calls Try.prog 21 #[.agg (roA s t)] w fun e w' => e = .returned (.bool (rightB s)) ∧ Chg [] w w' := by
  have HS := Lib.hid hs
  have HT : Hid (∀ V, Chg [] w V → RbOk V s t) := Lib.hid fun V hc => ht.keep hc
  have HL := Lib.hid hl
  clear hs ht hl
  go_enter Try.func21, Try.ntmps21
  go_upto_region 1 with (fail)
  obtain ⟨Z, hZ⟩ : ∃ Z, Z = w.alloc (.cells (roA s t) 82) := ⟨_, rfl⟩
  obtain ⟨B, hB⟩ : ∃ B, B = w.heap.size := ⟨_, rfl⟩
  have hr : Z.row? B = some (roA s t) := by rw [hZ]; exact row_alloc_at _ _ _ _ hB
  have HCZ : Hid (Chg [] w Z) := Lib.hid (by rw [hZ]; exact (Chg.refl _ _).alloc _)
  rw [← hZ, ← hB]
  have HRZ : Hid (∀ V, Chg [] Z V → V.row? B = some (roA s t)) := Lib.hid fun V hc => (hc.row (row_lt hr) (by simp)).trans hr
  have HLD : Hid (∀ V, Chg [] Z V → ∀ (q : Nat) (u : Value), (roA s t).toList[q]? = some u → V.cell? ⟨B, 0 + q, none⟩ = some u) := Lib.hid fun V hc q u hu => by rw [row_cell (HRZ.out V hc), Nat.zero_add, ← Array.getElem?_toList]; exact hu
  clear hZ hB hr
  go_wp2_with fail
  go_loopw [3] (fun i wr => ∃ k : Nat, k ≤ 3 ∧ i = .int .i64 (k : Int) ∧ (∀ q : Nat, q < k → sizeR s (q : Int) ≤ 16384 ∧ sizeR s (q : Int) % 4 = 0) ∧ Chg [] Z wr) (fun i _ => 3 - (intOf i).toNat)
  case atStart => exact ⟨0, by omega, rfl, fun q hq => by omega, Chg.refl _ _⟩
  case round =>
    obtain ⟨k, hk, rfl, hall, hch⟩ := hrel
    have HK := Lib.hid hk
    have HALL := Lib.hid hall
    have HCH := Lib.hid hch
    clear hk hall hch
    by_cases hkn : k < 3
    · have HKN := Lib.hid hkn
      have dI : (k : Int) < 3 := by omega
      have HW := Lib.hid (wrapK k (by omega))
      have HL1 := Lib.hid (HLD.out wr HCH.out)
      obtain ⟨x, hx⟩ : ∃ x, x = sizeR s (k : Int) := ⟨_, rfl⟩
      have HX := Lib.hid hx
      have HS1 := rsize_any s t (k : Int) wr
      rw [← hx] at HS1
      have HS1 := Lib.hid HS1
      have HNB : Hid (16384 < x ∨ x % 4 ≠ 0 → baseB s = false) := Lib.hid (by
        intro h
        unfold baseB
        rw [decide_eq_false_iff_not]
        rintro ⟨a1, a2, a3, a4, a5, a6, -⟩
        have h3 : k = 0 ∨ k = 1 ∨ k = 2 := by omega
        rcases h3 with rfl | rfl | rfl
        · rw [hx] at h; simp [sizeR] at h; omega
        · rw [hx] at h; simp [sizeR] at h; omega
        · rw [hx] at h; simp [sizeR] at h; omega)
      clear hkn hx
      go_wp2_with (refine wpList_load_part a82 (roA s t).toList rfl _ rfl rfl rfl HL1.out ?_)
      refine HS1.out.mono ?_
      rintro e w5 ⟨rfl, hc5⟩
      have HC5 := Lib.hid (HCH.out.trans hc5)
      have HL2 := Lib.hid (HLD.out w5 HC5.out)
      have HS2 := rsize_any s t (k : Int) w5
      rw [← HX.out] at HS2
      have HS2 := Lib.hid HS2
      clear hc5
      rcases Nat.lt_or_ge 16384 x with h1 | h1
      · have i1 : (16384 : Int) < (x : Int) := by omega
        have HB := Lib.hid (no_base (HNB.out (.inl h1)))
        clear h1
        go_wp2
        go_ret
        exact ⟨by rw [HB.out]; rfl, HCZ.out.trans HC5.out⟩
      · have i1 : ¬ (16384 : Int) < (x : Int) := by omega
        have H1 := Lib.hid h1
        clear h1
        have hr5 := HRZ.out w5 HC5.out
        have q0 : w5.cell? ⟨B, 0, none⟩ = some (.slice s.pc s.nc s.cc) := by rw [row_cell hr5]; rfl
        have q1 : w5.cell? ⟨B, 1, none⟩ = some (.slice s.pd s.nd s.cd) := by rw [row_cell hr5]; rfl
        have q2 : w5.cell? ⟨B, 2, none⟩ = some (.int .i64 (s.z : Int)) := by rw [row_cell hr5]; rfl
        have q3 : w5.cell? ⟨B, 3, none⟩ = some (.slice t.pf s.nf t.cf) := by rw [row_cell hr5]; rfl
        have q4 : w5.cell? ⟨B, 4, none⟩ = some (.slice t.pr s.nr t.cr) := by rw [row_cell hr5]; rfl
        clear hr5
        go_wp2_with fail
        refine HS2.out.mono ?_
        rintro e w6 ⟨rfl, hc6⟩
        have HC6 := Lib.hid (HC5.out.trans hc6)
        clear hc6 q0 q1 q2 q3 q4
        by_cases h2 : x % 4 = 0
        · have H2 := Lib.hid h2
          have i2 : ((x : Int) % 4 != 0) = false := by rw [bne_eq_false_iff_eq]; omega
          have i3 : (x : Int) % 4 = 0 := by omega
          clear h2
          go_wp2_with fail
          case roundEnd => exact ⟨⟨k + 1, by have := HKN.out; omega, by first | rw [HW.out] | exact congrArg (Value.int .i64) (by omega), fun q hq => by
            by_cases e : q = k
            · subst e; rw [← HX.out]; exact ⟨H1.out, H2.out⟩
            · exact HALL.out q (by omega), HC6.out⟩, by (try rw [HW.out]); simp only [intOf, Int.toNat_natCast]; have := HKN.out; omega⟩
        · have i2 : ((x : Int) % 4 != 0) = true := by rw [bne_iff_ne]; omega
          have i3 : ¬ (x : Int) % 4 = 0 := by omega
          have HB := Lib.hid (no_base (HNB.out (.inr h2)))
          clear h2
          go_wp2
          go_ret
          exact ⟨by rw [HB.out]; rfl, HCZ.out.trans HC6.out⟩
    · have dI : ¬ (k : Int) < 3 := by omega
      have HBB : Hid (baseB s = decide (s.nf ≤ 64 ∧ s.nr ≤ 64)) := Lib.hid (by
        have h0 := HALL.out 0 (by omega)
        have h1 := HALL.out 1 (by omega)
        have h2 := HALL.out 2 (by omega)
        simp [sizeR] at h0 h1 h2
        unfold baseB
        rw [decide_eq_decide]
        omega)
      clear hkn
      have c3 : wr.cell? ⟨B, 3, none⟩ = some (.slice t.pf s.nf t.cf) := by rw [row_cell (HRZ.out wr HCH.out)]; rfl
      have c4 : wr.cell? ⟨B, 4, none⟩ = some (.slice t.pr s.nr t.cr) := by rw [row_cell (HRZ.out wr HCH.out)]; rfl
      go_upto_region 6 with (fail)
      clear dI
      go_cut [32] (fun v wx => v = .bool (!(baseB s)) ∧ wx = wr)
      case first =>
        go_wp2_with fail
        all_goals go_meet
        all_goals refine ⟨congrArg Value.bool ?_, rfl⟩
        all_goals (rw [HBB.out, Bool.eq_iff_iff]; simp; try omega)
      case rest =>
        obtain ⟨rfl, h⟩ := hcut
        obtain rfl := h.symm
        clear c3 c4
        cases hb : baseB s
        case false =>
          have HB := Lib.hid (no_base hb)
          clear hb
          go_wp2
          go_ret
          exact ⟨by rw [HB.out]; rfl, HCZ.out.trans HCH.out⟩
        case true =>
          have HB := Lib.hid hb
          have HN : Hid (s.nf ≤ 64 ∧ s.nr ≤ 64) := Lib.hid (by rw [HBB.out, decide_eq_true_eq] at hb; exact hb)
          clear hb
          rw [show (!true) = false from rfl]
          go_upto_block 2 with (fail)
          go_wp2_with fail
          go_loopw [4] (fun i wr => ∃ k : Nat, k ≤ s.nf ∧ i = .int .i64 (k : Int) ∧ (∀ (j : Nat) (d : Df), j < k → s.F[j]? = some d → dfB s d = true) ∧ Chg [] Z wr) (fun i _ => s.nf - (intOf i).toNat)
          case atStart => exact ⟨0, Nat.zero_le _, rfl, fun j d hj => by omega, HCH.out⟩
          case round =>
            obtain ⟨k2, hk, rfl, hall, hch⟩ := hrel
            have HK2 := Lib.hid hk
            have HALL2 := Lib.hid hall
            have HCH2 := Lib.hid hch
            clear hk hall hch
            obtain ⟨pf, hpe⟩ : ∃ p, p = t.pf := ⟨_, rfl⟩
            have c3 : wr.cell? ⟨B, 3, none⟩ = some (.slice pf s.nf t.cf) := by rw [row_cell (HRZ.out wr HCH2.out), hpe]; rfl
            have HPF : Hid (0 < s.nf → pf = some ⟨t.bf, 0, none⟩) := Lib.hid (by rw [hpe]; exact (HT.out _ (HCZ.out.trans HCH2.out)).Fp)
            clear hpe
            by_cases hkn : k2 < s.nf
            · have HKN := Lib.hid hkn
              have dI : (k2 : Int) < (s.nf : Int) := by omega
              have dN : k2 < s.nf := hkn
              have HW := Lib.hid (wrapK k2 (by have := HN.out; omega))
              obtain ⟨d, hd⟩ : ∃ d, s.F[k2]? = some d := ⟨_, List.getElem?_eq_getElem (by rw [HS.out.Fn]; exact hkn)⟩
              have HD := Lib.hid hd
              have HSC : Hid (∀ (i : Nat) (u : Value), (DrC d)[i]? = some u → wr.cell? ⟨t.bf, k2 * 3 + i, none⟩ = some u) := Lib.hid ((HT.out _ (HCZ.out.trans HCH2.out)).Fa k2 d hd)
              obtain rfl := HPF.out (by omega)
              obtain ⟨Z2, hZ2⟩ : ∃ Z2, Z2 = wr.alloc (.cells (DrC d).toArray 85) := ⟨_, rfl⟩
              obtain ⟨Bd, hBd⟩ : ∃ b, b = wr.heap.size := ⟨_, rfl⟩
              have hc2 : Chg [] wr Z2 := by rw [hZ2]; exact (Chg.refl _ _).alloc _
              have hr2 : Z2.row? Bd = some (DrC d).toArray := by rw [hZ2]; exact row_alloc_at _ _ _ _ hBd
              have HC2 := Lib.hid (HCH2.out.trans hc2)
              have e0 : Hid (Z2.drew.cell? ⟨Bd, 0, none⟩ = some (.string d.name)) := Lib.hid (show Z2.cell? _ = _ by rw [row_cell hr2]; rfl)
              have e1 : Hid (Z2.drew.cell? ⟨Bd, 1, none⟩ = some (.int .i64 d.sec)) := Lib.hid (show Z2.cell? _ = _ by rw [row_cell hr2]; rfl)
              have e2 : Hid (Z2.drew.cell? ⟨Bd, 2, none⟩ = some (.int .i64 (d.at_ : Int))) := Lib.hid (show Z2.cell? _ = _ by rw [row_cell hr2]; rfl)
              have HRB : Hid (Z2.drew.row? B = some (roA s t)) := Lib.hid (show Z2.row? B = _ from HRZ.out Z2 HC2.out)
              have HZ2 := Lib.hid hZ2
              have HBd := Lib.hid hBd
              clear hd hZ2 hBd hc2 hr2 hkn
              go_upto_region 12 with (first | (refine wpList_load_part a85 (DrC d) rfl _ rfl rfl rfl HSC.out ?_) | (refine wpList_store_new a85 _ _ rfl rfl rfl rfl rfl rfl rfl rfl ?_))
              rw [← HZ2.out, ← HBd.out]
              clear HZ2 HBd dI dN c3
              go_upto_if 73 with (fail)
              go_cut [73] (fun v wx => v = .bool (!(dfB s d)) ∧ Chg [] Z wx)
              case first =>
                by_cases hA : d.name.size < 1
                · have f0 : (d.name.size : Int) < 1 := by omega
                  refine wp_region_C (fun w' => w'.cell? ⟨Bd, 0, none⟩ = some (.string d.name) ∧ w'.cell? ⟨Bd, 1, none⟩ = some (.int .i64 d.sec) ∧ w'.cell? ⟨Bd, 2, none⟩ = some (.int .i64 (d.at_ : Int)) ∧ w'.row? B = some (roA s t)) [(0, 0), (1, 1), (2, 0), (3, 0), (4, 0), (5, 0), (6, 1), (7, 0), (8, 0), (9, 0), (10, 0), (11, 0), (12, 1), (13, 0), (14, 0), (15, 0), (16, 0), (17, 1), (18, 0), (19, 0), (20, 0), (21, 0), (22, 1), (23, 1), (24, 0), (25, 1), (26, 1), (27, 0), (28, 0)] rfl (by kernel_rfl) ?hSA0 ?hTA0
                  case hSA0 => exact ⟨e0.out, e1.out, e2.out, HRB.out⟩
                  refine wpT_pureD (v := ?_) (some 45) rfl rfl (by rfl) (fun w' => ?_) ?_
                  rotate_left
                  · (go_simp; try with_reducible rfl)
                  try simp only [Act.put, List.setIfInBounds_toArray, List.set_cons_zero, List.set_cons_succ]
                  refine wpT_readD (v := ?_) (some 46) rfl rfl (by rfl) (fun w' hw => ?_) ?_
                  rotate_left
                  · (obtain ⟨q0, q1, q2, q3⟩ := hw; go_simp; try with_reducible rfl)
                  try simp only [Act.put, List.setIfInBounds_toArray, List.set_cons_zero, List.set_cons_succ]
                  refine wpT_pureD (v := ?_) (some 47) rfl rfl (by rfl) (fun w' => ?_) ?_
                  rotate_left
                  · (go_simp; try with_reducible rfl)
                  try simp only [Act.put, List.setIfInBounds_toArray, List.set_cons_zero, List.set_cons_succ]
                  refine wpT_pureD (v := ?_) (some 48) rfl rfl (by rfl) (fun w' => ?_) ?_
                  rotate_left
                  · (go_simp; try with_reducible rfl)
                  try simp only [Act.put, List.setIfInBounds_toArray, List.set_cons_zero, List.set_cons_succ]
                  refine wpT_pureD (v := ?_) (some 49) rfl rfl (by rfl) (fun w' => ?_) ?_
                  rotate_left
                  · (go_simp; try with_reducible rfl)
                  try simp only [Act.put, List.setIfInBounds_toArray, List.set_cons_zero, List.set_cons_succ]
                  refine wpT_skipD (some 50) rfl rfl (by rfl) ?_
                  try simp only [Act.put, List.setIfInBounds_toArray, List.set_cons_zero, List.set_cons_succ]
                  refine wpT_skipD (some 51) rfl rfl (by rfl) ?_
                  try simp only [Act.put, List.setIfInBounds_toArray, List.set_cons_zero, List.set_cons_succ]
                  refine wpT_skipD (some 52) rfl rfl (by rfl) ?_
                  try simp only [Act.put, List.setIfInBounds_toArray, List.set_cons_zero, List.set_cons_succ]
                  refine wpT_skipD (some 53) rfl rfl (by rfl) ?_
                  try simp only [Act.put, List.setIfInBounds_toArray, List.set_cons_zero, List.set_cons_succ]
                  refine wpT_pureD (v := ?_) (some 54) rfl rfl (by rfl) (fun w' => ?_) ?_
                  rotate_left
                  · (go_simp; try with_reducible rfl)
                  try simp only [Act.put, List.setIfInBounds_toArray, List.set_cons_zero, List.set_cons_succ]
                  refine wpT_pureD (v := ?_) (some 55) rfl rfl (by rfl) (fun w' => ?_) ?_
                  rotate_left
                  · (go_simp; try with_reducible rfl)
                  try simp only [Act.put, List.setIfInBounds_toArray, List.set_cons_zero, List.set_cons_succ]
                  refine wpT_skipD (some 56) rfl rfl (by rfl) ?_
                  try simp only [Act.put, List.setIfInBounds_toArray, List.set_cons_zero, List.set_cons_succ]
                  refine wpT_skipD (some 57) rfl rfl (by rfl) ?_
                  try simp only [Act.put, List.setIfInBounds_toArray, List.set_cons_zero, List.set_cons_succ]
                  refine wpT_skipD (some 58) rfl rfl (by rfl) ?_
                  try simp only [Act.put, List.setIfInBounds_toArray, List.set_cons_zero, List.set_cons_succ]
                  refine wpT_pureD (v := ?_) (some 59) rfl rfl (by rfl) (fun w' => ?_) ?_
                  rotate_left
                  · (go_simp; try with_reducible rfl)
                  try simp only [Act.put, List.setIfInBounds_toArray, List.set_cons_zero, List.set_cons_succ]
                  refine wpT_pureD (v := ?_) (some 60) rfl rfl (by rfl) (fun w' => ?_) ?_
                  rotate_left
                  · (go_simp; try with_reducible rfl)
                  try simp only [Act.put, List.setIfInBounds_toArray, List.set_cons_zero, List.set_cons_succ]
                  refine wpT_skipD (some 61) rfl rfl (by rfl) ?_
                  try simp only [Act.put, List.setIfInBounds_toArray, List.set_cons_zero, List.set_cons_succ]
                  refine wpT_skipD (some 62) rfl rfl (by rfl) ?_
                  try simp only [Act.put, List.setIfInBounds_toArray, List.set_cons_zero, List.set_cons_succ]
                  refine wpT_skipD (some 63) rfl rfl (by rfl) ?_
                  try simp only [Act.put, List.setIfInBounds_toArray, List.set_cons_zero, List.set_cons_succ]
                  refine wpT_pureD (v := ?_) (some 64) rfl rfl (by rfl) (fun w' => ?_) ?_
                  rotate_left
                  · (go_simp; try with_reducible rfl)
                  try simp only [Act.put, List.setIfInBounds_toArray, List.set_cons_zero, List.set_cons_succ]
                  refine wpT_pureD (v := ?_) (some 65) rfl rfl (by rfl) (fun w' => ?_) ?_
                  rotate_left
                  · (go_simp; try with_reducible rfl)
                  try simp only [Act.put, List.setIfInBounds_toArray, List.set_cons_zero, List.set_cons_succ]
                  refine wpT_skipD (some 66) rfl rfl (by rfl) ?_
                  try simp only [Act.put, List.setIfInBounds_toArray, List.set_cons_zero, List.set_cons_succ]
                  refine wpT_skipD (some 67) rfl rfl (by rfl) ?_
                  try simp only [Act.put, List.setIfInBounds_toArray, List.set_cons_zero, List.set_cons_succ]
                  refine wpT_skipD (some 68) rfl rfl (by rfl) ?_
                  try simp only [Act.put, List.setIfInBounds_toArray, List.set_cons_zero, List.set_cons_succ]
                  refine wpT_skipD (some 69) rfl rfl (by rfl) ?_
                  try simp only [Act.put, List.setIfInBounds_toArray, List.set_cons_zero, List.set_cons_succ]
                  refine wpT_skipD (some 70) rfl rfl (by rfl) ?_
                  try simp only [Act.put, List.setIfInBounds_toArray, List.set_cons_zero, List.set_cons_succ]
                  refine wpT_skipD (some 71) rfl rfl (by rfl) ?_
                  try simp only [Act.put, List.setIfInBounds_toArray, List.set_cons_zero, List.set_cons_succ]
                  refine wpT_skipD (some 72) rfl rfl (by rfl) ?_
                  try simp only [Act.put, List.setIfInBounds_toArray, List.set_cons_zero, List.set_cons_succ]
                  refine wpT_pureD (v := ?_) (some 73) rfl rfl (by rfl) (fun w' => ?_) ?_
                  rotate_left
                  · (go_simp; try with_reducible rfl)
                  try simp only [Act.put, List.setIfInBounds_toArray, List.set_cons_zero, List.set_cons_succ]
                  refine wpT_end ?_
                  go_wp2_with fail
                  go_meet
                  refine ⟨congrArg Value.bool ?_, HC2.out.trans (Chg.refl _ _).drew⟩
                  rw [dfB_iff, Bool.eq_iff_iff]; simp only [Bool.not_eq_true', decide_eq_false_iff_not, true_iff]; omega
                · skip
                  by_cases hB : 32 < d.name.size
                  · have f0 : ¬ (d.name.size : Int) < 1 := by omega
                    have f1 : (32 : Int) < (d.name.size : Int) := by omega
                    refine wp_region_C (fun w' => w'.cell? ⟨Bd, 0, none⟩ = some (.string d.name) ∧ w'.cell? ⟨Bd, 1, none⟩ = some (.int .i64 d.sec) ∧ w'.cell? ⟨Bd, 2, none⟩ = some (.int .i64 (d.at_ : Int)) ∧ w'.row? B = some (roA s t)) [(0, 0), (1, 1), (2, 0), (3, 0), (4, 0), (5, 0), (6, 1), (7, 0), (8, 0), (9, 0), (10, 0), (11, 0), (12, 1), (13, 0), (14, 0), (15, 0), (16, 0), (17, 1), (18, 0), (19, 0), (20, 0), (21, 0), (22, 1), (23, 1), (24, 0), (25, 1), (26, 1), (27, 0), (28, 0)] rfl (by kernel_rfl) ?hSA1 ?hTA1
                    case hSA1 => exact ⟨e0.out, e1.out, e2.out, HRB.out⟩
                    refine wpT_pureD (v := ?_) (some 45) rfl rfl (by rfl) (fun w' => ?_) ?_
                    rotate_left
                    · (go_simp; try with_reducible rfl)
                    try simp only [Act.put, List.setIfInBounds_toArray, List.set_cons_zero, List.set_cons_succ]
                    refine wpT_readD (v := ?_) (some 46) rfl rfl (by rfl) (fun w' hw => ?_) ?_
                    rotate_left
                    · (obtain ⟨q0, q1, q2, q3⟩ := hw; go_simp; try with_reducible rfl)
                    try simp only [Act.put, List.setIfInBounds_toArray, List.set_cons_zero, List.set_cons_succ]
                    refine wpT_pureD (v := ?_) (some 47) rfl rfl (by rfl) (fun w' => ?_) ?_
                    rotate_left
                    · (go_simp; try with_reducible rfl)
                    try simp only [Act.put, List.setIfInBounds_toArray, List.set_cons_zero, List.set_cons_succ]
                    refine wpT_pureD (v := ?_) (some 48) rfl rfl (by rfl) (fun w' => ?_) ?_
                    rotate_left
                    · (go_simp; try with_reducible rfl)
                    try simp only [Act.put, List.setIfInBounds_toArray, List.set_cons_zero, List.set_cons_succ]
                    refine wpT_pureD (v := ?_) (some 49) rfl rfl (by rfl) (fun w' => ?_) ?_
                    rotate_left
                    · (go_simp; try with_reducible rfl)
                    try simp only [Act.put, List.setIfInBounds_toArray, List.set_cons_zero, List.set_cons_succ]
                    refine wpT_pureD (v := ?_) (some 50) rfl rfl (by rfl) (fun w' => ?_) ?_
                    rotate_left
                    · (go_simp; try with_reducible rfl)
                    try simp only [Act.put, List.setIfInBounds_toArray, List.set_cons_zero, List.set_cons_succ]
                    refine wpT_readD (v := ?_) (some 51) rfl rfl (by rfl) (fun w' hw => ?_) ?_
                    rotate_left
                    · (obtain ⟨q0, q1, q2, q3⟩ := hw; go_simp; try with_reducible rfl)
                    try simp only [Act.put, List.setIfInBounds_toArray, List.set_cons_zero, List.set_cons_succ]
                    refine wpT_pureD (v := ?_) (some 52) rfl rfl (by rfl) (fun w' => ?_) ?_
                    rotate_left
                    · (go_simp; try with_reducible rfl)
                    try simp only [Act.put, List.setIfInBounds_toArray, List.set_cons_zero, List.set_cons_succ]
                    refine wpT_pureD (v := ?_) (some 53) rfl rfl (by rfl) (fun w' => ?_) ?_
                    rotate_left
                    · (go_simp; try with_reducible rfl)
                    try simp only [Act.put, List.setIfInBounds_toArray, List.set_cons_zero, List.set_cons_succ]
                    refine wpT_pureD (v := ?_) (some 54) rfl rfl (by rfl) (fun w' => ?_) ?_
                    rotate_left
                    · (go_simp; try with_reducible rfl)
                    try simp only [Act.put, List.setIfInBounds_toArray, List.set_cons_zero, List.set_cons_succ]
                    refine wpT_pureD (v := ?_) (some 55) rfl rfl (by rfl) (fun w' => ?_) ?_
                    rotate_left
                    · (go_simp; try with_reducible rfl)
                    try simp only [Act.put, List.setIfInBounds_toArray, List.set_cons_zero, List.set_cons_succ]
                    refine wpT_skipD (some 56) rfl rfl (by rfl) ?_
                    try simp only [Act.put, List.setIfInBounds_toArray, List.set_cons_zero, List.set_cons_succ]
                    refine wpT_skipD (some 57) rfl rfl (by rfl) ?_
                    try simp only [Act.put, List.setIfInBounds_toArray, List.set_cons_zero, List.set_cons_succ]
                    refine wpT_skipD (some 58) rfl rfl (by rfl) ?_
                    try simp only [Act.put, List.setIfInBounds_toArray, List.set_cons_zero, List.set_cons_succ]
                    refine wpT_pureD (v := ?_) (some 59) rfl rfl (by rfl) (fun w' => ?_) ?_
                    rotate_left
                    · (go_simp; try with_reducible rfl)
                    try simp only [Act.put, List.setIfInBounds_toArray, List.set_cons_zero, List.set_cons_succ]
                    refine wpT_pureD (v := ?_) (some 60) rfl rfl (by rfl) (fun w' => ?_) ?_
                    rotate_left
                    · (go_simp; try with_reducible rfl)
                    try simp only [Act.put, List.setIfInBounds_toArray, List.set_cons_zero, List.set_cons_succ]
                    refine wpT_skipD (some 61) rfl rfl (by rfl) ?_
                    try simp only [Act.put, List.setIfInBounds_toArray, List.set_cons_zero, List.set_cons_succ]
                    refine wpT_skipD (some 62) rfl rfl (by rfl) ?_
                    try simp only [Act.put, List.setIfInBounds_toArray, List.set_cons_zero, List.set_cons_succ]
                    refine wpT_skipD (some 63) rfl rfl (by rfl) ?_
                    try simp only [Act.put, List.setIfInBounds_toArray, List.set_cons_zero, List.set_cons_succ]
                    refine wpT_pureD (v := ?_) (some 64) rfl rfl (by rfl) (fun w' => ?_) ?_
                    rotate_left
                    · (go_simp; try with_reducible rfl)
                    try simp only [Act.put, List.setIfInBounds_toArray, List.set_cons_zero, List.set_cons_succ]
                    refine wpT_pureD (v := ?_) (some 65) rfl rfl (by rfl) (fun w' => ?_) ?_
                    rotate_left
                    · (go_simp; try with_reducible rfl)
                    try simp only [Act.put, List.setIfInBounds_toArray, List.set_cons_zero, List.set_cons_succ]
                    refine wpT_skipD (some 66) rfl rfl (by rfl) ?_
                    try simp only [Act.put, List.setIfInBounds_toArray, List.set_cons_zero, List.set_cons_succ]
                    refine wpT_skipD (some 67) rfl rfl (by rfl) ?_
                    try simp only [Act.put, List.setIfInBounds_toArray, List.set_cons_zero, List.set_cons_succ]
                    refine wpT_skipD (some 68) rfl rfl (by rfl) ?_
                    try simp only [Act.put, List.setIfInBounds_toArray, List.set_cons_zero, List.set_cons_succ]
                    refine wpT_skipD (some 69) rfl rfl (by rfl) ?_
                    try simp only [Act.put, List.setIfInBounds_toArray, List.set_cons_zero, List.set_cons_succ]
                    refine wpT_skipD (some 70) rfl rfl (by rfl) ?_
                    try simp only [Act.put, List.setIfInBounds_toArray, List.set_cons_zero, List.set_cons_succ]
                    refine wpT_skipD (some 71) rfl rfl (by rfl) ?_
                    try simp only [Act.put, List.setIfInBounds_toArray, List.set_cons_zero, List.set_cons_succ]
                    refine wpT_skipD (some 72) rfl rfl (by rfl) ?_
                    try simp only [Act.put, List.setIfInBounds_toArray, List.set_cons_zero, List.set_cons_succ]
                    refine wpT_pureD (v := ?_) (some 73) rfl rfl (by rfl) (fun w' => ?_) ?_
                    rotate_left
                    · (go_simp; try with_reducible rfl)
                    try simp only [Act.put, List.setIfInBounds_toArray, List.set_cons_zero, List.set_cons_succ]
                    refine wpT_end ?_
                    go_wp2_with fail
                    go_meet
                    refine ⟨congrArg Value.bool ?_, HC2.out.trans (Chg.refl _ _).drew⟩
                    rw [dfB_iff, Bool.eq_iff_iff]; simp only [Bool.not_eq_true', decide_eq_false_iff_not, true_iff]; omega
                  · skip
                    by_cases hC : d.sec < 0
                    · have f0 : ¬ (d.name.size : Int) < 1 := by omega
                      have f1 : ¬ (32 : Int) < (d.name.size : Int) := by omega
                      refine wp_region_C (fun w' => w'.cell? ⟨Bd, 0, none⟩ = some (.string d.name) ∧ w'.cell? ⟨Bd, 1, none⟩ = some (.int .i64 d.sec) ∧ w'.cell? ⟨Bd, 2, none⟩ = some (.int .i64 (d.at_ : Int)) ∧ w'.row? B = some (roA s t)) [(0, 0), (1, 1), (2, 0), (3, 0), (4, 0), (5, 0), (6, 1), (7, 0), (8, 0), (9, 0), (10, 0), (11, 0), (12, 1), (13, 0), (14, 0), (15, 0), (16, 0), (17, 1), (18, 0), (19, 0), (20, 0), (21, 0), (22, 1), (23, 1), (24, 0), (25, 1), (26, 1), (27, 0), (28, 0)] rfl (by kernel_rfl) ?hSA2 ?hTA2
                      case hSA2 => exact ⟨e0.out, e1.out, e2.out, HRB.out⟩
                      refine wpT_pureD (v := ?_) (some 45) rfl rfl (by rfl) (fun w' => ?_) ?_
                      rotate_left
                      · (go_simp; try with_reducible rfl)
                      try simp only [Act.put, List.setIfInBounds_toArray, List.set_cons_zero, List.set_cons_succ]
                      refine wpT_readD (v := ?_) (some 46) rfl rfl (by rfl) (fun w' hw => ?_) ?_
                      rotate_left
                      · (obtain ⟨q0, q1, q2, q3⟩ := hw; go_simp; try with_reducible rfl)
                      try simp only [Act.put, List.setIfInBounds_toArray, List.set_cons_zero, List.set_cons_succ]
                      refine wpT_pureD (v := ?_) (some 47) rfl rfl (by rfl) (fun w' => ?_) ?_
                      rotate_left
                      · (go_simp; try with_reducible rfl)
                      try simp only [Act.put, List.setIfInBounds_toArray, List.set_cons_zero, List.set_cons_succ]
                      refine wpT_pureD (v := ?_) (some 48) rfl rfl (by rfl) (fun w' => ?_) ?_
                      rotate_left
                      · (go_simp; try with_reducible rfl)
                      try simp only [Act.put, List.setIfInBounds_toArray, List.set_cons_zero, List.set_cons_succ]
                      refine wpT_pureD (v := ?_) (some 49) rfl rfl (by rfl) (fun w' => ?_) ?_
                      rotate_left
                      · (go_simp; try with_reducible rfl)
                      try simp only [Act.put, List.setIfInBounds_toArray, List.set_cons_zero, List.set_cons_succ]
                      refine wpT_pureD (v := ?_) (some 50) rfl rfl (by rfl) (fun w' => ?_) ?_
                      rotate_left
                      · (go_simp; try with_reducible rfl)
                      try simp only [Act.put, List.setIfInBounds_toArray, List.set_cons_zero, List.set_cons_succ]
                      refine wpT_readD (v := ?_) (some 51) rfl rfl (by rfl) (fun w' hw => ?_) ?_
                      rotate_left
                      · (obtain ⟨q0, q1, q2, q3⟩ := hw; go_simp; try with_reducible rfl)
                      try simp only [Act.put, List.setIfInBounds_toArray, List.set_cons_zero, List.set_cons_succ]
                      refine wpT_pureD (v := ?_) (some 52) rfl rfl (by rfl) (fun w' => ?_) ?_
                      rotate_left
                      · (go_simp; try with_reducible rfl)
                      try simp only [Act.put, List.setIfInBounds_toArray, List.set_cons_zero, List.set_cons_succ]
                      refine wpT_pureD (v := ?_) (some 53) rfl rfl (by rfl) (fun w' => ?_) ?_
                      rotate_left
                      · (go_simp; try with_reducible rfl)
                      try simp only [Act.put, List.setIfInBounds_toArray, List.set_cons_zero, List.set_cons_succ]
                      refine wpT_pureD (v := ?_) (some 54) rfl rfl (by rfl) (fun w' => ?_) ?_
                      rotate_left
                      · (go_simp; try with_reducible rfl)
                      try simp only [Act.put, List.setIfInBounds_toArray, List.set_cons_zero, List.set_cons_succ]
                      refine wpT_pureD (v := ?_) (some 55) rfl rfl (by rfl) (fun w' => ?_) ?_
                      rotate_left
                      · (go_simp; try with_reducible rfl)
                      try simp only [Act.put, List.setIfInBounds_toArray, List.set_cons_zero, List.set_cons_succ]
                      refine wpT_pureD (v := ?_) (some 56) rfl rfl (by rfl) (fun w' => ?_) ?_
                      rotate_left
                      · (go_simp; try with_reducible rfl)
                      try simp only [Act.put, List.setIfInBounds_toArray, List.set_cons_zero, List.set_cons_succ]
                      refine wpT_readD (v := ?_) (some 57) rfl rfl (by rfl) (fun w' hw => ?_) ?_
                      rotate_left
                      · (obtain ⟨q0, q1, q2, q3⟩ := hw; go_simp; try with_reducible rfl)
                      try simp only [Act.put, List.setIfInBounds_toArray, List.set_cons_zero, List.set_cons_succ]
                      refine wpT_pureD (v := ?_) (some 58) rfl rfl (by rfl) (fun w' => ?_) ?_
                      rotate_left
                      · (go_simp; try with_reducible rfl)
                      try simp only [Act.put, List.setIfInBounds_toArray, List.set_cons_zero, List.set_cons_succ]
                      refine wpT_pureD (v := ?_) (some 59) rfl rfl (by rfl) (fun w' => ?_) ?_
                      rotate_left
                      · (go_simp; try with_reducible rfl)
                      try simp only [Act.put, List.setIfInBounds_toArray, List.set_cons_zero, List.set_cons_succ]
                      refine wpT_pureD (v := ?_) (some 60) rfl rfl (by rfl) (fun w' => ?_) ?_
                      rotate_left
                      · (go_simp; try with_reducible rfl)
                      try simp only [Act.put, List.setIfInBounds_toArray, List.set_cons_zero, List.set_cons_succ]
                      refine wpT_skipD (some 61) rfl rfl (by rfl) ?_
                      try simp only [Act.put, List.setIfInBounds_toArray, List.set_cons_zero, List.set_cons_succ]
                      refine wpT_skipD (some 62) rfl rfl (by rfl) ?_
                      try simp only [Act.put, List.setIfInBounds_toArray, List.set_cons_zero, List.set_cons_succ]
                      refine wpT_skipD (some 63) rfl rfl (by rfl) ?_
                      try simp only [Act.put, List.setIfInBounds_toArray, List.set_cons_zero, List.set_cons_succ]
                      refine wpT_pureD (v := ?_) (some 64) rfl rfl (by rfl) (fun w' => ?_) ?_
                      rotate_left
                      · (go_simp; try with_reducible rfl)
                      try simp only [Act.put, List.setIfInBounds_toArray, List.set_cons_zero, List.set_cons_succ]
                      refine wpT_pureD (v := ?_) (some 65) rfl rfl (by rfl) (fun w' => ?_) ?_
                      rotate_left
                      · (go_simp; try with_reducible rfl)
                      try simp only [Act.put, List.setIfInBounds_toArray, List.set_cons_zero, List.set_cons_succ]
                      refine wpT_skipD (some 66) rfl rfl (by rfl) ?_
                      try simp only [Act.put, List.setIfInBounds_toArray, List.set_cons_zero, List.set_cons_succ]
                      refine wpT_skipD (some 67) rfl rfl (by rfl) ?_
                      try simp only [Act.put, List.setIfInBounds_toArray, List.set_cons_zero, List.set_cons_succ]
                      refine wpT_skipD (some 68) rfl rfl (by rfl) ?_
                      try simp only [Act.put, List.setIfInBounds_toArray, List.set_cons_zero, List.set_cons_succ]
                      refine wpT_skipD (some 69) rfl rfl (by rfl) ?_
                      try simp only [Act.put, List.setIfInBounds_toArray, List.set_cons_zero, List.set_cons_succ]
                      refine wpT_skipD (some 70) rfl rfl (by rfl) ?_
                      try simp only [Act.put, List.setIfInBounds_toArray, List.set_cons_zero, List.set_cons_succ]
                      refine wpT_skipD (some 71) rfl rfl (by rfl) ?_
                      try simp only [Act.put, List.setIfInBounds_toArray, List.set_cons_zero, List.set_cons_succ]
                      refine wpT_skipD (some 72) rfl rfl (by rfl) ?_
                      try simp only [Act.put, List.setIfInBounds_toArray, List.set_cons_zero, List.set_cons_succ]
                      refine wpT_pureD (v := ?_) (some 73) rfl rfl (by rfl) (fun w' => ?_) ?_
                      rotate_left
                      · (go_simp; try with_reducible rfl)
                      try simp only [Act.put, List.setIfInBounds_toArray, List.set_cons_zero, List.set_cons_succ]
                      refine wpT_end ?_
                      go_wp2_with fail
                      go_meet
                      refine ⟨congrArg Value.bool ?_, HC2.out.trans (Chg.refl _ _).drew⟩
                      rw [dfB_iff, Bool.eq_iff_iff]; simp only [Bool.not_eq_true', decide_eq_false_iff_not, true_iff]; omega
                    · skip
                      by_cases hD : 2 < d.sec
                      · have f0 : ¬ (d.name.size : Int) < 1 := by omega
                        have f1 : ¬ (32 : Int) < (d.name.size : Int) := by omega
                        refine wp_region_C (fun w' => w'.cell? ⟨Bd, 0, none⟩ = some (.string d.name) ∧ w'.cell? ⟨Bd, 1, none⟩ = some (.int .i64 d.sec) ∧ w'.cell? ⟨Bd, 2, none⟩ = some (.int .i64 (d.at_ : Int)) ∧ w'.row? B = some (roA s t)) [(0, 0), (1, 1), (2, 0), (3, 0), (4, 0), (5, 0), (6, 1), (7, 0), (8, 0), (9, 0), (10, 0), (11, 0), (12, 1), (13, 0), (14, 0), (15, 0), (16, 0), (17, 1), (18, 0), (19, 0), (20, 0), (21, 0), (22, 1), (23, 1), (24, 0), (25, 1), (26, 1), (27, 0), (28, 0)] rfl (by kernel_rfl) ?hSA3 ?hTA3
                        case hSA3 => exact ⟨e0.out, e1.out, e2.out, HRB.out⟩
                        refine wpT_pureD (v := ?_) (some 45) rfl rfl (by rfl) (fun w' => ?_) ?_
                        rotate_left
                        · (go_simp; try with_reducible rfl)
                        try simp only [Act.put, List.setIfInBounds_toArray, List.set_cons_zero, List.set_cons_succ]
                        refine wpT_readD (v := ?_) (some 46) rfl rfl (by rfl) (fun w' hw => ?_) ?_
                        rotate_left
                        · (obtain ⟨q0, q1, q2, q3⟩ := hw; go_simp; try with_reducible rfl)
                        try simp only [Act.put, List.setIfInBounds_toArray, List.set_cons_zero, List.set_cons_succ]
                        refine wpT_pureD (v := ?_) (some 47) rfl rfl (by rfl) (fun w' => ?_) ?_
                        rotate_left
                        · (go_simp; try with_reducible rfl)
                        try simp only [Act.put, List.setIfInBounds_toArray, List.set_cons_zero, List.set_cons_succ]
                        refine wpT_pureD (v := ?_) (some 48) rfl rfl (by rfl) (fun w' => ?_) ?_
                        rotate_left
                        · (go_simp; try with_reducible rfl)
                        try simp only [Act.put, List.setIfInBounds_toArray, List.set_cons_zero, List.set_cons_succ]
                        refine wpT_pureD (v := ?_) (some 49) rfl rfl (by rfl) (fun w' => ?_) ?_
                        rotate_left
                        · (go_simp; try with_reducible rfl)
                        try simp only [Act.put, List.setIfInBounds_toArray, List.set_cons_zero, List.set_cons_succ]
                        refine wpT_pureD (v := ?_) (some 50) rfl rfl (by rfl) (fun w' => ?_) ?_
                        rotate_left
                        · (go_simp; try with_reducible rfl)
                        try simp only [Act.put, List.setIfInBounds_toArray, List.set_cons_zero, List.set_cons_succ]
                        refine wpT_readD (v := ?_) (some 51) rfl rfl (by rfl) (fun w' hw => ?_) ?_
                        rotate_left
                        · (obtain ⟨q0, q1, q2, q3⟩ := hw; go_simp; try with_reducible rfl)
                        try simp only [Act.put, List.setIfInBounds_toArray, List.set_cons_zero, List.set_cons_succ]
                        refine wpT_pureD (v := ?_) (some 52) rfl rfl (by rfl) (fun w' => ?_) ?_
                        rotate_left
                        · (go_simp; try with_reducible rfl)
                        try simp only [Act.put, List.setIfInBounds_toArray, List.set_cons_zero, List.set_cons_succ]
                        refine wpT_pureD (v := ?_) (some 53) rfl rfl (by rfl) (fun w' => ?_) ?_
                        rotate_left
                        · (go_simp; try with_reducible rfl)
                        try simp only [Act.put, List.setIfInBounds_toArray, List.set_cons_zero, List.set_cons_succ]
                        refine wpT_pureD (v := ?_) (some 54) rfl rfl (by rfl) (fun w' => ?_) ?_
                        rotate_left
                        · (go_simp; try with_reducible rfl)
                        try simp only [Act.put, List.setIfInBounds_toArray, List.set_cons_zero, List.set_cons_succ]
                        refine wpT_pureD (v := ?_) (some 55) rfl rfl (by rfl) (fun w' => ?_) ?_
                        rotate_left
                        · (go_simp; try with_reducible rfl)
                        try simp only [Act.put, List.setIfInBounds_toArray, List.set_cons_zero, List.set_cons_succ]
                        refine wpT_pureD (v := ?_) (some 56) rfl rfl (by rfl) (fun w' => ?_) ?_
                        rotate_left
                        · (go_simp; try with_reducible rfl)
                        try simp only [Act.put, List.setIfInBounds_toArray, List.set_cons_zero, List.set_cons_succ]
                        refine wpT_readD (v := ?_) (some 57) rfl rfl (by rfl) (fun w' hw => ?_) ?_
                        rotate_left
                        · (obtain ⟨q0, q1, q2, q3⟩ := hw; go_simp; try with_reducible rfl)
                        try simp only [Act.put, List.setIfInBounds_toArray, List.set_cons_zero, List.set_cons_succ]
                        refine wpT_pureD (v := ?_) (some 58) rfl rfl (by rfl) (fun w' => ?_) ?_
                        rotate_left
                        · (go_simp; try with_reducible rfl)
                        try simp only [Act.put, List.setIfInBounds_toArray, List.set_cons_zero, List.set_cons_succ]
                        refine wpT_pureD (v := ?_) (some 59) rfl rfl (by rfl) (fun w' => ?_) ?_
                        rotate_left
                        · (go_simp; try with_reducible rfl)
                        try simp only [Act.put, List.setIfInBounds_toArray, List.set_cons_zero, List.set_cons_succ]
                        refine wpT_pureD (v := ?_) (some 60) rfl rfl (by rfl) (fun w' => ?_) ?_
                        rotate_left
                        · (go_simp; try with_reducible rfl)
                        try simp only [Act.put, List.setIfInBounds_toArray, List.set_cons_zero, List.set_cons_succ]
                        refine wpT_pureD (v := ?_) (some 61) rfl rfl (by rfl) (fun w' => ?_) ?_
                        rotate_left
                        · (go_simp; try with_reducible rfl)
                        try simp only [Act.put, List.setIfInBounds_toArray, List.set_cons_zero, List.set_cons_succ]
                        refine wpT_readD (v := ?_) (some 62) rfl rfl (by rfl) (fun w' hw => ?_) ?_
                        rotate_left
                        · (obtain ⟨q0, q1, q2, q3⟩ := hw; go_simp; try with_reducible rfl)
                        try simp only [Act.put, List.setIfInBounds_toArray, List.set_cons_zero, List.set_cons_succ]
                        refine wpT_pureD (v := ?_) (some 63) rfl rfl (by rfl) (fun w' => ?_) ?_
                        rotate_left
                        · (go_simp; try with_reducible rfl)
                        try simp only [Act.put, List.setIfInBounds_toArray, List.set_cons_zero, List.set_cons_succ]
                        refine wpT_pureD (v := ?_) (some 64) rfl rfl (by rfl) (fun w' => ?_) ?_
                        rotate_left
                        · (go_simp; try with_reducible rfl)
                        try simp only [Act.put, List.setIfInBounds_toArray, List.set_cons_zero, List.set_cons_succ]
                        refine wpT_pureD (v := ?_) (some 65) rfl rfl (by rfl) (fun w' => ?_) ?_
                        rotate_left
                        · (go_simp; try with_reducible rfl)
                        try simp only [Act.put, List.setIfInBounds_toArray, List.set_cons_zero, List.set_cons_succ]
                        refine wpT_skipD (some 66) rfl rfl (by rfl) ?_
                        try simp only [Act.put, List.setIfInBounds_toArray, List.set_cons_zero, List.set_cons_succ]
                        refine wpT_skipD (some 67) rfl rfl (by rfl) ?_
                        try simp only [Act.put, List.setIfInBounds_toArray, List.set_cons_zero, List.set_cons_succ]
                        refine wpT_skipD (some 68) rfl rfl (by rfl) ?_
                        try simp only [Act.put, List.setIfInBounds_toArray, List.set_cons_zero, List.set_cons_succ]
                        refine wpT_skipD (some 69) rfl rfl (by rfl) ?_
                        try simp only [Act.put, List.setIfInBounds_toArray, List.set_cons_zero, List.set_cons_succ]
                        refine wpT_skipD (some 70) rfl rfl (by rfl) ?_
                        try simp only [Act.put, List.setIfInBounds_toArray, List.set_cons_zero, List.set_cons_succ]
                        refine wpT_skipD (some 71) rfl rfl (by rfl) ?_
                        try simp only [Act.put, List.setIfInBounds_toArray, List.set_cons_zero, List.set_cons_succ]
                        refine wpT_skipD (some 72) rfl rfl (by rfl) ?_
                        try simp only [Act.put, List.setIfInBounds_toArray, List.set_cons_zero, List.set_cons_succ]
                        refine wpT_pureD (v := ?_) (some 73) rfl rfl (by rfl) (fun w' => ?_) ?_
                        rotate_left
                        · (go_simp; try with_reducible rfl)
                        try simp only [Act.put, List.setIfInBounds_toArray, List.set_cons_zero, List.set_cons_succ]
                        refine wpT_end ?_
                        go_wp2_with fail
                        go_meet
                        refine ⟨congrArg Value.bool ?_, HC2.out.trans (Chg.refl _ _).drew⟩
                        rw [dfB_iff, Bool.eq_iff_iff]; simp only [Bool.not_eq_true', decide_eq_false_iff_not, true_iff]; omega
                      · skip
                        have f0 : ¬ (d.name.size : Int) < 1 := by omega
                        have f1 : ¬ (32 : Int) < (d.name.size : Int) := by omega
                        refine wp_region_C (fun w' => w'.cell? ⟨Bd, 0, none⟩ = some (.string d.name) ∧ w'.cell? ⟨Bd, 1, none⟩ = some (.int .i64 d.sec) ∧ w'.cell? ⟨Bd, 2, none⟩ = some (.int .i64 (d.at_ : Int)) ∧ w'.row? B = some (roA s t)) [(0, 0), (1, 1), (2, 0), (3, 0), (4, 0), (5, 0), (6, 1), (7, 0), (8, 0), (9, 0), (10, 0), (11, 0), (12, 1), (13, 0), (14, 0), (15, 0), (16, 0), (17, 1), (18, 0), (19, 0), (20, 0), (21, 0), (22, 1), (23, 1), (24, 0), (25, 1), (26, 2), (27, 0), (28, 0)] rfl (by kernel_rfl) ?hSAz ?hTAz
                        case hSAz => exact ⟨e0.out, e1.out, e2.out, HRB.out⟩
                        refine wpT_pureD (v := ?_) (some 45) rfl rfl (by rfl) (fun w' => ?_) ?_
                        rotate_left
                        · (go_simp; try with_reducible rfl)
                        try simp only [Act.put, List.setIfInBounds_toArray, List.set_cons_zero, List.set_cons_succ]
                        refine wpT_readD (v := ?_) (some 46) rfl rfl (by rfl) (fun w' hw => ?_) ?_
                        rotate_left
                        · (obtain ⟨q0, q1, q2, q3⟩ := hw; go_simp; try with_reducible rfl)
                        try simp only [Act.put, List.setIfInBounds_toArray, List.set_cons_zero, List.set_cons_succ]
                        refine wpT_pureD (v := ?_) (some 47) rfl rfl (by rfl) (fun w' => ?_) ?_
                        rotate_left
                        · (go_simp; try with_reducible rfl)
                        try simp only [Act.put, List.setIfInBounds_toArray, List.set_cons_zero, List.set_cons_succ]
                        refine wpT_pureD (v := ?_) (some 48) rfl rfl (by rfl) (fun w' => ?_) ?_
                        rotate_left
                        · (go_simp; try with_reducible rfl)
                        try simp only [Act.put, List.setIfInBounds_toArray, List.set_cons_zero, List.set_cons_succ]
                        refine wpT_pureD (v := ?_) (some 49) rfl rfl (by rfl) (fun w' => ?_) ?_
                        rotate_left
                        · (go_simp; try with_reducible rfl)
                        try simp only [Act.put, List.setIfInBounds_toArray, List.set_cons_zero, List.set_cons_succ]
                        refine wpT_pureD (v := ?_) (some 50) rfl rfl (by rfl) (fun w' => ?_) ?_
                        rotate_left
                        · (go_simp; try with_reducible rfl)
                        try simp only [Act.put, List.setIfInBounds_toArray, List.set_cons_zero, List.set_cons_succ]
                        refine wpT_readD (v := ?_) (some 51) rfl rfl (by rfl) (fun w' hw => ?_) ?_
                        rotate_left
                        · (obtain ⟨q0, q1, q2, q3⟩ := hw; go_simp; try with_reducible rfl)
                        try simp only [Act.put, List.setIfInBounds_toArray, List.set_cons_zero, List.set_cons_succ]
                        refine wpT_pureD (v := ?_) (some 52) rfl rfl (by rfl) (fun w' => ?_) ?_
                        rotate_left
                        · (go_simp; try with_reducible rfl)
                        try simp only [Act.put, List.setIfInBounds_toArray, List.set_cons_zero, List.set_cons_succ]
                        refine wpT_pureD (v := ?_) (some 53) rfl rfl (by rfl) (fun w' => ?_) ?_
                        rotate_left
                        · (go_simp; try with_reducible rfl)
                        try simp only [Act.put, List.setIfInBounds_toArray, List.set_cons_zero, List.set_cons_succ]
                        refine wpT_pureD (v := ?_) (some 54) rfl rfl (by rfl) (fun w' => ?_) ?_
                        rotate_left
                        · (go_simp; try with_reducible rfl)
                        try simp only [Act.put, List.setIfInBounds_toArray, List.set_cons_zero, List.set_cons_succ]
                        refine wpT_pureD (v := ?_) (some 55) rfl rfl (by rfl) (fun w' => ?_) ?_
                        rotate_left
                        · (go_simp; try with_reducible rfl)
                        try simp only [Act.put, List.setIfInBounds_toArray, List.set_cons_zero, List.set_cons_succ]
                        refine wpT_pureD (v := ?_) (some 56) rfl rfl (by rfl) (fun w' => ?_) ?_
                        rotate_left
                        · (go_simp; try with_reducible rfl)
                        try simp only [Act.put, List.setIfInBounds_toArray, List.set_cons_zero, List.set_cons_succ]
                        refine wpT_readD (v := ?_) (some 57) rfl rfl (by rfl) (fun w' hw => ?_) ?_
                        rotate_left
                        · (obtain ⟨q0, q1, q2, q3⟩ := hw; go_simp; try with_reducible rfl)
                        try simp only [Act.put, List.setIfInBounds_toArray, List.set_cons_zero, List.set_cons_succ]
                        refine wpT_pureD (v := ?_) (some 58) rfl rfl (by rfl) (fun w' => ?_) ?_
                        rotate_left
                        · (go_simp; try with_reducible rfl)
                        try simp only [Act.put, List.setIfInBounds_toArray, List.set_cons_zero, List.set_cons_succ]
                        refine wpT_pureD (v := ?_) (some 59) rfl rfl (by rfl) (fun w' => ?_) ?_
                        rotate_left
                        · (go_simp; try with_reducible rfl)
                        try simp only [Act.put, List.setIfInBounds_toArray, List.set_cons_zero, List.set_cons_succ]
                        refine wpT_pureD (v := ?_) (some 60) rfl rfl (by rfl) (fun w' => ?_) ?_
                        rotate_left
                        · (go_simp; try with_reducible rfl)
                        try simp only [Act.put, List.setIfInBounds_toArray, List.set_cons_zero, List.set_cons_succ]
                        refine wpT_pureD (v := ?_) (some 61) rfl rfl (by rfl) (fun w' => ?_) ?_
                        rotate_left
                        · (go_simp; try with_reducible rfl)
                        try simp only [Act.put, List.setIfInBounds_toArray, List.set_cons_zero, List.set_cons_succ]
                        refine wpT_readD (v := ?_) (some 62) rfl rfl (by rfl) (fun w' hw => ?_) ?_
                        rotate_left
                        · (obtain ⟨q0, q1, q2, q3⟩ := hw; go_simp; try with_reducible rfl)
                        try simp only [Act.put, List.setIfInBounds_toArray, List.set_cons_zero, List.set_cons_succ]
                        refine wpT_pureD (v := ?_) (some 63) rfl rfl (by rfl) (fun w' => ?_) ?_
                        rotate_left
                        · (go_simp; try with_reducible rfl)
                        try simp only [Act.put, List.setIfInBounds_toArray, List.set_cons_zero, List.set_cons_succ]
                        refine wpT_pureD (v := ?_) (some 64) rfl rfl (by rfl) (fun w' => ?_) ?_
                        rotate_left
                        · (go_simp; try with_reducible rfl)
                        try simp only [Act.put, List.setIfInBounds_toArray, List.set_cons_zero, List.set_cons_succ]
                        refine wpT_pureD (v := ?_) (some 65) rfl rfl (by rfl) (fun w' => ?_) ?_
                        rotate_left
                        · (go_simp; try with_reducible rfl)
                        try simp only [Act.put, List.setIfInBounds_toArray, List.set_cons_zero, List.set_cons_succ]
                        refine wpT_pureD (v := ?_) (some 66) rfl rfl (by rfl) (fun w' => ?_) ?_
                        rotate_left
                        · (go_simp; try with_reducible rfl)
                        try simp only [Act.put, List.setIfInBounds_toArray, List.set_cons_zero, List.set_cons_succ]
                        refine wpT_readD (v := ?_) (some 67) rfl rfl (by rfl) (fun w' hw => ?_) ?_
                        rotate_left
                        · (obtain ⟨q0, q1, q2, q3⟩ := hw; go_simp; try with_reducible rfl)
                        try simp only [Act.put, List.setIfInBounds_toArray, List.set_cons_zero, List.set_cons_succ]
                        refine wpT_load_part a82 (roA s t).toList (some 68) _ rfl rfl rfl (by rfl) rfl rfl (fun w' hw j u hu => by rw [Nat.zero_add, row_cell hw.2.2.2, ← Array.getElem?_toList]; exact hu) ?_
                        try simp only [Act.put, List.setIfInBounds_toArray, List.set_cons_zero, List.set_cons_succ]
                        try simp only [Act.put, List.setIfInBounds_toArray, List.set_cons_zero, List.set_cons_succ]
                        refine wpT_pureD (v := ?_) (some 69) rfl rfl (by rfl) (fun w' => ?_) ?_
                        rotate_left
                        · (go_simp; try with_reducible rfl)
                        try simp only [Act.put, List.setIfInBounds_toArray, List.set_cons_zero, List.set_cons_succ]
                        refine wpT_readD (v := ?_) (some 70) rfl rfl (by rfl) (fun w' hw => ?_) ?_
                        rotate_left
                        · (obtain ⟨q0, q1, q2, q3⟩ := hw; go_simp; try with_reducible rfl)
                        try simp only [Act.put, List.setIfInBounds_toArray, List.set_cons_zero, List.set_cons_succ]
                        refine wpT_eff rfl (by rfl) (fun K hK => ?_)
                        go_wp2_with fail
                        refine (rsize_any s t d.sec _).mono ?_
                        rintro e w5 ⟨rfl, hc5⟩
                        have HC5 := Lib.hid hc5
                        clear hc5
                        go_wp2_with fail
                        refine hK _ _ ⟨keepc e0.out HC5.out (by simp), keepc e1.out HC5.out (by simp), keepc e2.out HC5.out (by simp), (HC5.out.row (row_lt HRB.out) (by simp)).trans HRB.out⟩ ?_
                        clear hK K
                        try simp only [Act.put, List.setIfInBounds_toArray, List.set_cons_zero, List.set_cons_succ]
                        refine wpT_pureD (v := ?_) (some 72) rfl rfl (by rfl) (fun w' => ?_) ?_
                        rotate_left
                        · (go_simp; try with_reducible rfl)
                        try simp only [Act.put, List.setIfInBounds_toArray, List.set_cons_zero, List.set_cons_succ]
                        refine wpT_pureD (v := ?_) (some 73) rfl rfl (by rfl) (fun w' => ?_) ?_
                        rotate_left
                        · (go_simp; try with_reducible rfl)
                        try simp only [Act.put, List.setIfInBounds_toArray, List.set_cons_zero, List.set_cons_succ]
                        refine wpT_end ?_
                        go_wp2_with fail
                        go_meet
                        refine ⟨congrArg Value.bool ?_, (HC2.out.trans (Chg.refl _ _).drew).trans HC5.out⟩
                        rw [dfB_iff, Bool.eq_iff_iff]; simp only [Bool.not_eq_true', decide_eq_false_iff_not, decide_eq_true_eq]; omega
              case rest =>
                obtain ⟨rfl, hcw⟩ := hcut
                have HCW := Lib.hid hcw
                clear hcw
                cases hb : dfB s d
                case false =>
                  have HBD := Lib.hid hb
                  clear hb
                  go_wp2
                  go_ret
                  exact ⟨by rw [show rightB s = false by unfold rightB; rw [all_bad HD.out HBD.out, Bool.and_false, Bool.false_and]]; rfl, HCZ.out.trans HCW.out⟩
                case true =>
                  have HBD := Lib.hid hb
                  clear hb
                  rw [show (!true) = false from rfl]
                  go_wp2_with fail
                  case roundEnd => exact ⟨⟨k2 + 1, HKN.out, by rw [HW.out], fun j x hj hx => by
                    by_cases e : j = k2
                    · subst e; rw [HD.out] at hx; obtain rfl := Option.some.inj hx; exact HBD.out
                    · exact HALL2.out j x (by omega) hx, HCW.out⟩, by rw [HW.out]; simp only [intOf, Int.toNat_natCast]; have := HKN.out; omega⟩
            · have dI : ¬ (k2 : Int) < (s.nf : Int) := by omega
              have HF : Hid (s.F.all (dfB s) = true) := Lib.hid (all_good fun j x hx => HALL2.out j x (by
                have := (List.getElem?_eq_some_iff.1 hx).1
                have := HS.out.Fn
                omega) hx)
              clear hkn
              go_upto_block 4 with (fail)
              clear c3 dI
              go_wp2_with fail
              go_loopw [6] (fun i wr => ∃ k : Nat, k ≤ s.nr ∧ i = .int .i64 (k : Int) ∧ (∀ (j : Nat) (d : Rf), j < k → s.R[j]? = some d → rfB s d = true) ∧ Chg [] Z wr) (fun i _ => s.nr - (intOf i).toNat)
              case atStart => exact ⟨0, Nat.zero_le _, rfl, fun j d hj => by omega, HCH2.out⟩
              case round =>
                obtain ⟨k3, hk, rfl, hall, hch⟩ := hrel
                have HK3x := Lib.hid hk
                have HALL3 := Lib.hid hall
                have HCH3 := Lib.hid hch
                clear hk hall hch
                obtain ⟨pf, hpe⟩ : ∃ p, p = t.pr := ⟨_, rfl⟩
                have c3 : wr.cell? ⟨B, 4, none⟩ = some (.slice pf s.nr t.cr) := by rw [row_cell (HRZ.out wr HCH3.out), hpe]; rfl
                have HPF : Hid (0 < s.nr → pf = some ⟨t.br, 0, none⟩) := Lib.hid (by rw [hpe]; exact (HT.out _ (HCZ.out.trans HCH3.out)).Rp)
                clear hpe
                by_cases hkn : k3 < s.nr
                · have HKN := Lib.hid hkn
                  have dI : (k3 : Int) < (s.nr : Int) := by omega
                  have dN : k3 < s.nr := hkn
                  have HW := Lib.hid (wrapK k3 (by have := HN.out; omega))
                  obtain ⟨d, hd⟩ : ∃ d, s.R[k3]? = some d := ⟨_, List.getElem?_eq_getElem (by rw [HS.out.Rn]; exact hkn)⟩
                  have HD := Lib.hid hd
                  have HLR := Lib.hid (HS.out.Ra k3 d hd).2.1
                  have HSC : Hid (∀ (i : Nat) (u : Value), (RrC d)[i]? = some u → wr.cell? ⟨t.br, k3 * 5 + i, none⟩ = some u) := Lib.hid ((HT.out _ (HCZ.out.trans HCH3.out)).Ra k3 d hd)
                  obtain rfl := HPF.out (by omega)
                  obtain ⟨Z2, hZ2⟩ : ∃ Z2, Z2 = wr.alloc (.cells (RrC d).toArray 89) := ⟨_, rfl⟩
                  obtain ⟨Bd, hBd⟩ : ∃ b, b = wr.heap.size := ⟨_, rfl⟩
                  have hc2 : Chg [] wr Z2 := by rw [hZ2]; exact (Chg.refl _ _).alloc _
                  have hr2 : Z2.row? Bd = some (RrC d).toArray := by rw [hZ2]; exact row_alloc_at _ _ _ _ hBd
                  have HC2 := Lib.hid (HCH3.out.trans hc2)
                  have e0 : Hid (Z2.drew.cell? ⟨Bd, 0, none⟩ = some (.int .i64 d.sec)) := Lib.hid (show Z2.cell? _ = _ by rw [row_cell hr2]; rfl)
                  have e1 : Hid (Z2.drew.cell? ⟨Bd, 1, none⟩ = some (.int .i64 (d.at_ : Int))) := Lib.hid (show Z2.cell? _ = _ by rw [row_cell hr2]; rfl)
                  have e2 : Hid (Z2.drew.cell? ⟨Bd, 2, none⟩ = some (.int .i64 d.ty)) := Lib.hid (show Z2.cell? _ = _ by rw [row_cell hr2]; rfl)
                  have HRB : Hid (Z2.drew.row? B = some (roA s t)) := Lib.hid (show Z2.row? B = _ from HRZ.out Z2 HC2.out)
                  have HZ2 := Lib.hid hZ2
                  have HBd := Lib.hid hBd
                  clear hd hZ2 hBd hc2 hr2 hkn
                  go_upto_region 18 with (first | (refine wpList_load_part a89 (RrC d) rfl _ rfl rfl rfl HSC.out ?_) | (refine wpList_store_new a89 _ _ rfl rfl rfl rfl rfl rfl rfl rfl ?_))
                  rw [← HZ2.out, ← HBd.out]
                  clear HZ2 HBd dI dN c3
                  go_upto_if 118 with (fail)
                  go_cut [118] (fun v wx => v = .bool (!(rfB s d)) ∧ Chg [] Z wx)
                  case first =>
                    by_cases hA : d.sec < 0
                    · skip
                      refine wp_region_C (fun w' => w'.cell? ⟨Bd, 0, none⟩ = some (.int .i64 d.sec) ∧ w'.cell? ⟨Bd, 1, none⟩ = some (.int .i64 (d.at_ : Int)) ∧ w'.cell? ⟨Bd, 2, none⟩ = some (.int .i64 d.ty) ∧ w'.row? B = some (roA s t)) [(0, 0), (1, 1), (2, 0), (3, 0), (4, 0), (5, 1), (6, 0), (7, 0), (8, 0), (9, 0), (10, 1), (11, 0), (12, 0), (13, 0), (14, 0), (15, 1), (16, 0), (17, 0), (18, 0), (19, 0), (20, 1), (21, 0), (22, 0), (23, 0), (24, 0), (25, 1), (26, 0), (27, 1), (28, 0), (29, 1), (30, 1), (31, 0), (32, 0)] rfl (by kernel_rfl) ?hSR0 ?hTR0
                      case hSR0 => exact ⟨e0.out, e1.out, e2.out, HRB.out⟩
                      refine wpT_pureD (v := ?_) (some 86) rfl rfl (by rfl) (fun w' => ?_) ?_
                      rotate_left
                      · (go_simp; try with_reducible rfl)
                      try simp only [Act.put, List.setIfInBounds_toArray, List.set_cons_zero, List.set_cons_succ]
                      refine wpT_readD (v := ?_) (some 87) rfl rfl (by rfl) (fun w' hw => ?_) ?_
                      rotate_left
                      · (obtain ⟨q0, q1, q2, q3⟩ := hw; go_simp; try with_reducible rfl)
                      try simp only [Act.put, List.setIfInBounds_toArray, List.set_cons_zero, List.set_cons_succ]
                      refine wpT_pureD (v := ?_) (some 88) rfl rfl (by rfl) (fun w' => ?_) ?_
                      rotate_left
                      · (go_simp; try with_reducible rfl)
                      try simp only [Act.put, List.setIfInBounds_toArray, List.set_cons_zero, List.set_cons_succ]
                      refine wpT_pureD (v := ?_) (some 89) rfl rfl (by rfl) (fun w' => ?_) ?_
                      rotate_left
                      · (go_simp; try with_reducible rfl)
                      try simp only [Act.put, List.setIfInBounds_toArray, List.set_cons_zero, List.set_cons_succ]
                      refine wpT_skipD (some 90) rfl rfl (by rfl) ?_
                      try simp only [Act.put, List.setIfInBounds_toArray, List.set_cons_zero, List.set_cons_succ]
                      refine wpT_skipD (some 91) rfl rfl (by rfl) ?_
                      try simp only [Act.put, List.setIfInBounds_toArray, List.set_cons_zero, List.set_cons_succ]
                      refine wpT_skipD (some 92) rfl rfl (by rfl) ?_
                      try simp only [Act.put, List.setIfInBounds_toArray, List.set_cons_zero, List.set_cons_succ]
                      refine wpT_pureD (v := ?_) (some 93) rfl rfl (by rfl) (fun w' => ?_) ?_
                      rotate_left
                      · (go_simp; try with_reducible rfl)
                      try simp only [Act.put, List.setIfInBounds_toArray, List.set_cons_zero, List.set_cons_succ]
                      refine wpT_pureD (v := ?_) (some 94) rfl rfl (by rfl) (fun w' => ?_) ?_
                      rotate_left
                      · (go_simp; try with_reducible rfl)
                      try simp only [Act.put, List.setIfInBounds_toArray, List.set_cons_zero, List.set_cons_succ]
                      refine wpT_skipD (some 95) rfl rfl (by rfl) ?_
                      try simp only [Act.put, List.setIfInBounds_toArray, List.set_cons_zero, List.set_cons_succ]
                      refine wpT_skipD (some 96) rfl rfl (by rfl) ?_
                      try simp only [Act.put, List.setIfInBounds_toArray, List.set_cons_zero, List.set_cons_succ]
                      refine wpT_skipD (some 97) rfl rfl (by rfl) ?_
                      try simp only [Act.put, List.setIfInBounds_toArray, List.set_cons_zero, List.set_cons_succ]
                      refine wpT_pureD (v := ?_) (some 98) rfl rfl (by rfl) (fun w' => ?_) ?_
                      rotate_left
                      · (go_simp; try with_reducible rfl)
                      try simp only [Act.put, List.setIfInBounds_toArray, List.set_cons_zero, List.set_cons_succ]
                      refine wpT_pureD (v := ?_) (some 99) rfl rfl (by rfl) (fun w' => ?_) ?_
                      rotate_left
                      · (go_simp; try with_reducible rfl)
                      try simp only [Act.put, List.setIfInBounds_toArray, List.set_cons_zero, List.set_cons_succ]
                      refine wpT_skipD (some 100) rfl rfl (by rfl) ?_
                      try simp only [Act.put, List.setIfInBounds_toArray, List.set_cons_zero, List.set_cons_succ]
                      refine wpT_skipD (some 101) rfl rfl (by rfl) ?_
                      try simp only [Act.put, List.setIfInBounds_toArray, List.set_cons_zero, List.set_cons_succ]
                      refine wpT_skipD (some 102) rfl rfl (by rfl) ?_
                      try simp only [Act.put, List.setIfInBounds_toArray, List.set_cons_zero, List.set_cons_succ]
                      refine wpT_pureD (v := ?_) (some 103) rfl rfl (by rfl) (fun w' => ?_) ?_
                      rotate_left
                      · (go_simp; try with_reducible rfl)
                      try simp only [Act.put, List.setIfInBounds_toArray, List.set_cons_zero, List.set_cons_succ]
                      refine wpT_pureD (v := ?_) (some 104) rfl rfl (by rfl) (fun w' => ?_) ?_
                      rotate_left
                      · (go_simp; try with_reducible rfl)
                      try simp only [Act.put, List.setIfInBounds_toArray, List.set_cons_zero, List.set_cons_succ]
                      refine wpT_skipD (some 105) rfl rfl (by rfl) ?_
                      try simp only [Act.put, List.setIfInBounds_toArray, List.set_cons_zero, List.set_cons_succ]
                      refine wpT_skipD (some 106) rfl rfl (by rfl) ?_
                      try simp only [Act.put, List.setIfInBounds_toArray, List.set_cons_zero, List.set_cons_succ]
                      refine wpT_skipD (some 107) rfl rfl (by rfl) ?_
                      try simp only [Act.put, List.setIfInBounds_toArray, List.set_cons_zero, List.set_cons_succ]
                      refine wpT_pureD (v := ?_) (some 108) rfl rfl (by rfl) (fun w' => ?_) ?_
                      rotate_left
                      · (go_simp; try with_reducible rfl)
                      try simp only [Act.put, List.setIfInBounds_toArray, List.set_cons_zero, List.set_cons_succ]
                      refine wpT_pureD (v := ?_) (some 109) rfl rfl (by rfl) (fun w' => ?_) ?_
                      rotate_left
                      · (go_simp; try with_reducible rfl)
                      try simp only [Act.put, List.setIfInBounds_toArray, List.set_cons_zero, List.set_cons_succ]
                      refine wpT_skipD (some 110) rfl rfl (by rfl) ?_
                      try simp only [Act.put, List.setIfInBounds_toArray, List.set_cons_zero, List.set_cons_succ]
                      refine wpT_skipD (some 111) rfl rfl (by rfl) ?_
                      try simp only [Act.put, List.setIfInBounds_toArray, List.set_cons_zero, List.set_cons_succ]
                      refine wpT_skipD (some 112) rfl rfl (by rfl) ?_
                      try simp only [Act.put, List.setIfInBounds_toArray, List.set_cons_zero, List.set_cons_succ]
                      refine wpT_skipD (some 113) rfl rfl (by rfl) ?_
                      try simp only [Act.put, List.setIfInBounds_toArray, List.set_cons_zero, List.set_cons_succ]
                      refine wpT_skipD (some 114) rfl rfl (by rfl) ?_
                      try simp only [Act.put, List.setIfInBounds_toArray, List.set_cons_zero, List.set_cons_succ]
                      refine wpT_skipD (some 115) rfl rfl (by rfl) ?_
                      try simp only [Act.put, List.setIfInBounds_toArray, List.set_cons_zero, List.set_cons_succ]
                      refine wpT_skipD (some 116) rfl rfl (by rfl) ?_
                      try simp only [Act.put, List.setIfInBounds_toArray, List.set_cons_zero, List.set_cons_succ]
                      refine wpT_skipD (some 117) rfl rfl (by rfl) ?_
                      try simp only [Act.put, List.setIfInBounds_toArray, List.set_cons_zero, List.set_cons_succ]
                      refine wpT_pureD (v := ?_) (some 118) rfl rfl (by rfl) (fun w' => ?_) ?_
                      rotate_left
                      · (go_simp; try with_reducible rfl)
                      try simp only [Act.put, List.setIfInBounds_toArray, List.set_cons_zero, List.set_cons_succ]
                      refine wpT_end ?_
                      go_wp2_with fail
                      go_meet
                      refine ⟨congrArg Value.bool ?_, HC2.out.trans (Chg.refl _ _).drew⟩
                      rw [rfB_iff, Bool.eq_iff_iff]; simp; (try omega)
                    · skip
                      by_cases hB : 1 < d.sec
                      · skip
                        refine wp_region_C (fun w' => w'.cell? ⟨Bd, 0, none⟩ = some (.int .i64 d.sec) ∧ w'.cell? ⟨Bd, 1, none⟩ = some (.int .i64 (d.at_ : Int)) ∧ w'.cell? ⟨Bd, 2, none⟩ = some (.int .i64 d.ty) ∧ w'.row? B = some (roA s t)) [(0, 0), (1, 1), (2, 0), (3, 0), (4, 0), (5, 1), (6, 0), (7, 0), (8, 0), (9, 0), (10, 1), (11, 0), (12, 0), (13, 0), (14, 0), (15, 1), (16, 0), (17, 0), (18, 0), (19, 0), (20, 1), (21, 0), (22, 0), (23, 0), (24, 0), (25, 1), (26, 0), (27, 1), (28, 0), (29, 1), (30, 1), (31, 0), (32, 0)] rfl (by kernel_rfl) ?hSR1 ?hTR1
                        case hSR1 => exact ⟨e0.out, e1.out, e2.out, HRB.out⟩
                        refine wpT_pureD (v := ?_) (some 86) rfl rfl (by rfl) (fun w' => ?_) ?_
                        rotate_left
                        · (go_simp; try with_reducible rfl)
                        try simp only [Act.put, List.setIfInBounds_toArray, List.set_cons_zero, List.set_cons_succ]
                        refine wpT_readD (v := ?_) (some 87) rfl rfl (by rfl) (fun w' hw => ?_) ?_
                        rotate_left
                        · (obtain ⟨q0, q1, q2, q3⟩ := hw; go_simp; try with_reducible rfl)
                        try simp only [Act.put, List.setIfInBounds_toArray, List.set_cons_zero, List.set_cons_succ]
                        refine wpT_pureD (v := ?_) (some 88) rfl rfl (by rfl) (fun w' => ?_) ?_
                        rotate_left
                        · (go_simp; try with_reducible rfl)
                        try simp only [Act.put, List.setIfInBounds_toArray, List.set_cons_zero, List.set_cons_succ]
                        refine wpT_pureD (v := ?_) (some 89) rfl rfl (by rfl) (fun w' => ?_) ?_
                        rotate_left
                        · (go_simp; try with_reducible rfl)
                        try simp only [Act.put, List.setIfInBounds_toArray, List.set_cons_zero, List.set_cons_succ]
                        refine wpT_pureD (v := ?_) (some 90) rfl rfl (by rfl) (fun w' => ?_) ?_
                        rotate_left
                        · (go_simp; try with_reducible rfl)
                        try simp only [Act.put, List.setIfInBounds_toArray, List.set_cons_zero, List.set_cons_succ]
                        refine wpT_readD (v := ?_) (some 91) rfl rfl (by rfl) (fun w' hw => ?_) ?_
                        rotate_left
                        · (obtain ⟨q0, q1, q2, q3⟩ := hw; go_simp; try with_reducible rfl)
                        try simp only [Act.put, List.setIfInBounds_toArray, List.set_cons_zero, List.set_cons_succ]
                        refine wpT_pureD (v := ?_) (some 92) rfl rfl (by rfl) (fun w' => ?_) ?_
                        rotate_left
                        · (go_simp; try with_reducible rfl)
                        try simp only [Act.put, List.setIfInBounds_toArray, List.set_cons_zero, List.set_cons_succ]
                        refine wpT_pureD (v := ?_) (some 93) rfl rfl (by rfl) (fun w' => ?_) ?_
                        rotate_left
                        · (go_simp; try with_reducible rfl)
                        try simp only [Act.put, List.setIfInBounds_toArray, List.set_cons_zero, List.set_cons_succ]
                        refine wpT_pureD (v := ?_) (some 94) rfl rfl (by rfl) (fun w' => ?_) ?_
                        rotate_left
                        · (go_simp; try with_reducible rfl)
                        try simp only [Act.put, List.setIfInBounds_toArray, List.set_cons_zero, List.set_cons_succ]
                        refine wpT_skipD (some 95) rfl rfl (by rfl) ?_
                        try simp only [Act.put, List.setIfInBounds_toArray, List.set_cons_zero, List.set_cons_succ]
                        refine wpT_skipD (some 96) rfl rfl (by rfl) ?_
                        try simp only [Act.put, List.setIfInBounds_toArray, List.set_cons_zero, List.set_cons_succ]
                        refine wpT_skipD (some 97) rfl rfl (by rfl) ?_
                        try simp only [Act.put, List.setIfInBounds_toArray, List.set_cons_zero, List.set_cons_succ]
                        refine wpT_pureD (v := ?_) (some 98) rfl rfl (by rfl) (fun w' => ?_) ?_
                        rotate_left
                        · (go_simp; try with_reducible rfl)
                        try simp only [Act.put, List.setIfInBounds_toArray, List.set_cons_zero, List.set_cons_succ]
                        refine wpT_pureD (v := ?_) (some 99) rfl rfl (by rfl) (fun w' => ?_) ?_
                        rotate_left
                        · (go_simp; try with_reducible rfl)
                        try simp only [Act.put, List.setIfInBounds_toArray, List.set_cons_zero, List.set_cons_succ]
                        refine wpT_skipD (some 100) rfl rfl (by rfl) ?_
                        try simp only [Act.put, List.setIfInBounds_toArray, List.set_cons_zero, List.set_cons_succ]
                        refine wpT_skipD (some 101) rfl rfl (by rfl) ?_
                        try simp only [Act.put, List.setIfInBounds_toArray, List.set_cons_zero, List.set_cons_succ]
                        refine wpT_skipD (some 102) rfl rfl (by rfl) ?_
                        try simp only [Act.put, List.setIfInBounds_toArray, List.set_cons_zero, List.set_cons_succ]
                        refine wpT_pureD (v := ?_) (some 103) rfl rfl (by rfl) (fun w' => ?_) ?_
                        rotate_left
                        · (go_simp; try with_reducible rfl)
                        try simp only [Act.put, List.setIfInBounds_toArray, List.set_cons_zero, List.set_cons_succ]
                        refine wpT_pureD (v := ?_) (some 104) rfl rfl (by rfl) (fun w' => ?_) ?_
                        rotate_left
                        · (go_simp; try with_reducible rfl)
                        try simp only [Act.put, List.setIfInBounds_toArray, List.set_cons_zero, List.set_cons_succ]
                        refine wpT_skipD (some 105) rfl rfl (by rfl) ?_
                        try simp only [Act.put, List.setIfInBounds_toArray, List.set_cons_zero, List.set_cons_succ]
                        refine wpT_skipD (some 106) rfl rfl (by rfl) ?_
                        try simp only [Act.put, List.setIfInBounds_toArray, List.set_cons_zero, List.set_cons_succ]
                        refine wpT_skipD (some 107) rfl rfl (by rfl) ?_
                        try simp only [Act.put, List.setIfInBounds_toArray, List.set_cons_zero, List.set_cons_succ]
                        refine wpT_pureD (v := ?_) (some 108) rfl rfl (by rfl) (fun w' => ?_) ?_
                        rotate_left
                        · (go_simp; try with_reducible rfl)
                        try simp only [Act.put, List.setIfInBounds_toArray, List.set_cons_zero, List.set_cons_succ]
                        refine wpT_pureD (v := ?_) (some 109) rfl rfl (by rfl) (fun w' => ?_) ?_
                        rotate_left
                        · (go_simp; try with_reducible rfl)
                        try simp only [Act.put, List.setIfInBounds_toArray, List.set_cons_zero, List.set_cons_succ]
                        refine wpT_skipD (some 110) rfl rfl (by rfl) ?_
                        try simp only [Act.put, List.setIfInBounds_toArray, List.set_cons_zero, List.set_cons_succ]
                        refine wpT_skipD (some 111) rfl rfl (by rfl) ?_
                        try simp only [Act.put, List.setIfInBounds_toArray, List.set_cons_zero, List.set_cons_succ]
                        refine wpT_skipD (some 112) rfl rfl (by rfl) ?_
                        try simp only [Act.put, List.setIfInBounds_toArray, List.set_cons_zero, List.set_cons_succ]
                        refine wpT_skipD (some 113) rfl rfl (by rfl) ?_
                        try simp only [Act.put, List.setIfInBounds_toArray, List.set_cons_zero, List.set_cons_succ]
                        refine wpT_skipD (some 114) rfl rfl (by rfl) ?_
                        try simp only [Act.put, List.setIfInBounds_toArray, List.set_cons_zero, List.set_cons_succ]
                        refine wpT_skipD (some 115) rfl rfl (by rfl) ?_
                        try simp only [Act.put, List.setIfInBounds_toArray, List.set_cons_zero, List.set_cons_succ]
                        refine wpT_skipD (some 116) rfl rfl (by rfl) ?_
                        try simp only [Act.put, List.setIfInBounds_toArray, List.set_cons_zero, List.set_cons_succ]
                        refine wpT_skipD (some 117) rfl rfl (by rfl) ?_
                        try simp only [Act.put, List.setIfInBounds_toArray, List.set_cons_zero, List.set_cons_succ]
                        refine wpT_pureD (v := ?_) (some 118) rfl rfl (by rfl) (fun w' => ?_) ?_
                        rotate_left
                        · (go_simp; try with_reducible rfl)
                        try simp only [Act.put, List.setIfInBounds_toArray, List.set_cons_zero, List.set_cons_succ]
                        refine wpT_end ?_
                        go_wp2_with fail
                        go_meet
                        refine ⟨congrArg Value.bool ?_, HC2.out.trans (Chg.refl _ _).drew⟩
                        rw [rfB_iff, Bool.eq_iff_iff]; simp; (try omega)
                      · skip
                        by_cases hC : d.ty < 1
                        · skip
                          refine wp_region_C (fun w' => w'.cell? ⟨Bd, 0, none⟩ = some (.int .i64 d.sec) ∧ w'.cell? ⟨Bd, 1, none⟩ = some (.int .i64 (d.at_ : Int)) ∧ w'.cell? ⟨Bd, 2, none⟩ = some (.int .i64 d.ty) ∧ w'.row? B = some (roA s t)) [(0, 0), (1, 1), (2, 0), (3, 0), (4, 0), (5, 1), (6, 0), (7, 0), (8, 0), (9, 0), (10, 1), (11, 0), (12, 0), (13, 0), (14, 0), (15, 1), (16, 0), (17, 0), (18, 0), (19, 0), (20, 1), (21, 0), (22, 0), (23, 0), (24, 0), (25, 1), (26, 0), (27, 1), (28, 0), (29, 1), (30, 1), (31, 0), (32, 0)] rfl (by kernel_rfl) ?hSR2 ?hTR2
                          case hSR2 => exact ⟨e0.out, e1.out, e2.out, HRB.out⟩
                          refine wpT_pureD (v := ?_) (some 86) rfl rfl (by rfl) (fun w' => ?_) ?_
                          rotate_left
                          · (go_simp; try with_reducible rfl)
                          try simp only [Act.put, List.setIfInBounds_toArray, List.set_cons_zero, List.set_cons_succ]
                          refine wpT_readD (v := ?_) (some 87) rfl rfl (by rfl) (fun w' hw => ?_) ?_
                          rotate_left
                          · (obtain ⟨q0, q1, q2, q3⟩ := hw; go_simp; try with_reducible rfl)
                          try simp only [Act.put, List.setIfInBounds_toArray, List.set_cons_zero, List.set_cons_succ]
                          refine wpT_pureD (v := ?_) (some 88) rfl rfl (by rfl) (fun w' => ?_) ?_
                          rotate_left
                          · (go_simp; try with_reducible rfl)
                          try simp only [Act.put, List.setIfInBounds_toArray, List.set_cons_zero, List.set_cons_succ]
                          refine wpT_pureD (v := ?_) (some 89) rfl rfl (by rfl) (fun w' => ?_) ?_
                          rotate_left
                          · (go_simp; try with_reducible rfl)
                          try simp only [Act.put, List.setIfInBounds_toArray, List.set_cons_zero, List.set_cons_succ]
                          refine wpT_pureD (v := ?_) (some 90) rfl rfl (by rfl) (fun w' => ?_) ?_
                          rotate_left
                          · (go_simp; try with_reducible rfl)
                          try simp only [Act.put, List.setIfInBounds_toArray, List.set_cons_zero, List.set_cons_succ]
                          refine wpT_readD (v := ?_) (some 91) rfl rfl (by rfl) (fun w' hw => ?_) ?_
                          rotate_left
                          · (obtain ⟨q0, q1, q2, q3⟩ := hw; go_simp; try with_reducible rfl)
                          try simp only [Act.put, List.setIfInBounds_toArray, List.set_cons_zero, List.set_cons_succ]
                          refine wpT_pureD (v := ?_) (some 92) rfl rfl (by rfl) (fun w' => ?_) ?_
                          rotate_left
                          · (go_simp; try with_reducible rfl)
                          try simp only [Act.put, List.setIfInBounds_toArray, List.set_cons_zero, List.set_cons_succ]
                          refine wpT_pureD (v := ?_) (some 93) rfl rfl (by rfl) (fun w' => ?_) ?_
                          rotate_left
                          · (go_simp; try with_reducible rfl)
                          try simp only [Act.put, List.setIfInBounds_toArray, List.set_cons_zero, List.set_cons_succ]
                          refine wpT_pureD (v := ?_) (some 94) rfl rfl (by rfl) (fun w' => ?_) ?_
                          rotate_left
                          · (go_simp; try with_reducible rfl)
                          try simp only [Act.put, List.setIfInBounds_toArray, List.set_cons_zero, List.set_cons_succ]
                          refine wpT_pureD (v := ?_) (some 95) rfl rfl (by rfl) (fun w' => ?_) ?_
                          rotate_left
                          · (go_simp; try with_reducible rfl)
                          try simp only [Act.put, List.setIfInBounds_toArray, List.set_cons_zero, List.set_cons_succ]
                          refine wpT_readD (v := ?_) (some 96) rfl rfl (by rfl) (fun w' hw => ?_) ?_
                          rotate_left
                          · (obtain ⟨q0, q1, q2, q3⟩ := hw; go_simp; try with_reducible rfl)
                          try simp only [Act.put, List.setIfInBounds_toArray, List.set_cons_zero, List.set_cons_succ]
                          refine wpT_pureD (v := ?_) (some 97) rfl rfl (by rfl) (fun w' => ?_) ?_
                          rotate_left
                          · (go_simp; try with_reducible rfl)
                          try simp only [Act.put, List.setIfInBounds_toArray, List.set_cons_zero, List.set_cons_succ]
                          refine wpT_pureD (v := ?_) (some 98) rfl rfl (by rfl) (fun w' => ?_) ?_
                          rotate_left
                          · (go_simp; try with_reducible rfl)
                          try simp only [Act.put, List.setIfInBounds_toArray, List.set_cons_zero, List.set_cons_succ]
                          refine wpT_pureD (v := ?_) (some 99) rfl rfl (by rfl) (fun w' => ?_) ?_
                          rotate_left
                          · (go_simp; try with_reducible rfl)
                          try simp only [Act.put, List.setIfInBounds_toArray, List.set_cons_zero, List.set_cons_succ]
                          refine wpT_skipD (some 100) rfl rfl (by rfl) ?_
                          try simp only [Act.put, List.setIfInBounds_toArray, List.set_cons_zero, List.set_cons_succ]
                          refine wpT_skipD (some 101) rfl rfl (by rfl) ?_
                          try simp only [Act.put, List.setIfInBounds_toArray, List.set_cons_zero, List.set_cons_succ]
                          refine wpT_skipD (some 102) rfl rfl (by rfl) ?_
                          try simp only [Act.put, List.setIfInBounds_toArray, List.set_cons_zero, List.set_cons_succ]
                          refine wpT_pureD (v := ?_) (some 103) rfl rfl (by rfl) (fun w' => ?_) ?_
                          rotate_left
                          · (go_simp; try with_reducible rfl)
                          try simp only [Act.put, List.setIfInBounds_toArray, List.set_cons_zero, List.set_cons_succ]
                          refine wpT_pureD (v := ?_) (some 104) rfl rfl (by rfl) (fun w' => ?_) ?_
                          rotate_left
                          · (go_simp; try with_reducible rfl)
                          try simp only [Act.put, List.setIfInBounds_toArray, List.set_cons_zero, List.set_cons_succ]
                          refine wpT_skipD (some 105) rfl rfl (by rfl) ?_
                          try simp only [Act.put, List.setIfInBounds_toArray, List.set_cons_zero, List.set_cons_succ]
                          refine wpT_skipD (some 106) rfl rfl (by rfl) ?_
                          try simp only [Act.put, List.setIfInBounds_toArray, List.set_cons_zero, List.set_cons_succ]
                          refine wpT_skipD (some 107) rfl rfl (by rfl) ?_
                          try simp only [Act.put, List.setIfInBounds_toArray, List.set_cons_zero, List.set_cons_succ]
                          refine wpT_pureD (v := ?_) (some 108) rfl rfl (by rfl) (fun w' => ?_) ?_
                          rotate_left
                          · (go_simp; try with_reducible rfl)
                          try simp only [Act.put, List.setIfInBounds_toArray, List.set_cons_zero, List.set_cons_succ]
                          refine wpT_pureD (v := ?_) (some 109) rfl rfl (by rfl) (fun w' => ?_) ?_
                          rotate_left
                          · (go_simp; try with_reducible rfl)
                          try simp only [Act.put, List.setIfInBounds_toArray, List.set_cons_zero, List.set_cons_succ]
                          refine wpT_skipD (some 110) rfl rfl (by rfl) ?_
                          try simp only [Act.put, List.setIfInBounds_toArray, List.set_cons_zero, List.set_cons_succ]
                          refine wpT_skipD (some 111) rfl rfl (by rfl) ?_
                          try simp only [Act.put, List.setIfInBounds_toArray, List.set_cons_zero, List.set_cons_succ]
                          refine wpT_skipD (some 112) rfl rfl (by rfl) ?_
                          try simp only [Act.put, List.setIfInBounds_toArray, List.set_cons_zero, List.set_cons_succ]
                          refine wpT_skipD (some 113) rfl rfl (by rfl) ?_
                          try simp only [Act.put, List.setIfInBounds_toArray, List.set_cons_zero, List.set_cons_succ]
                          refine wpT_skipD (some 114) rfl rfl (by rfl) ?_
                          try simp only [Act.put, List.setIfInBounds_toArray, List.set_cons_zero, List.set_cons_succ]
                          refine wpT_skipD (some 115) rfl rfl (by rfl) ?_
                          try simp only [Act.put, List.setIfInBounds_toArray, List.set_cons_zero, List.set_cons_succ]
                          refine wpT_skipD (some 116) rfl rfl (by rfl) ?_
                          try simp only [Act.put, List.setIfInBounds_toArray, List.set_cons_zero, List.set_cons_succ]
                          refine wpT_skipD (some 117) rfl rfl (by rfl) ?_
                          try simp only [Act.put, List.setIfInBounds_toArray, List.set_cons_zero, List.set_cons_succ]
                          refine wpT_pureD (v := ?_) (some 118) rfl rfl (by rfl) (fun w' => ?_) ?_
                          rotate_left
                          · (go_simp; try with_reducible rfl)
                          try simp only [Act.put, List.setIfInBounds_toArray, List.set_cons_zero, List.set_cons_succ]
                          refine wpT_end ?_
                          go_wp2_with fail
                          go_meet
                          refine ⟨congrArg Value.bool ?_, HC2.out.trans (Chg.refl _ _).drew⟩
                          rw [rfB_iff, Bool.eq_iff_iff]; simp; (try omega)
                        · skip
                          by_cases hD : 255 < d.ty
                          · skip
                            refine wp_region_C (fun w' => w'.cell? ⟨Bd, 0, none⟩ = some (.int .i64 d.sec) ∧ w'.cell? ⟨Bd, 1, none⟩ = some (.int .i64 (d.at_ : Int)) ∧ w'.cell? ⟨Bd, 2, none⟩ = some (.int .i64 d.ty) ∧ w'.row? B = some (roA s t)) [(0, 0), (1, 1), (2, 0), (3, 0), (4, 0), (5, 1), (6, 0), (7, 0), (8, 0), (9, 0), (10, 1), (11, 0), (12, 0), (13, 0), (14, 0), (15, 1), (16, 0), (17, 0), (18, 0), (19, 0), (20, 1), (21, 0), (22, 0), (23, 0), (24, 0), (25, 1), (26, 0), (27, 1), (28, 0), (29, 1), (30, 1), (31, 0), (32, 0)] rfl (by kernel_rfl) ?hSR3 ?hTR3
                            case hSR3 => exact ⟨e0.out, e1.out, e2.out, HRB.out⟩
                            refine wpT_pureD (v := ?_) (some 86) rfl rfl (by rfl) (fun w' => ?_) ?_
                            rotate_left
                            · (go_simp; try with_reducible rfl)
                            try simp only [Act.put, List.setIfInBounds_toArray, List.set_cons_zero, List.set_cons_succ]
                            refine wpT_readD (v := ?_) (some 87) rfl rfl (by rfl) (fun w' hw => ?_) ?_
                            rotate_left
                            · (obtain ⟨q0, q1, q2, q3⟩ := hw; go_simp; try with_reducible rfl)
                            try simp only [Act.put, List.setIfInBounds_toArray, List.set_cons_zero, List.set_cons_succ]
                            refine wpT_pureD (v := ?_) (some 88) rfl rfl (by rfl) (fun w' => ?_) ?_
                            rotate_left
                            · (go_simp; try with_reducible rfl)
                            try simp only [Act.put, List.setIfInBounds_toArray, List.set_cons_zero, List.set_cons_succ]
                            refine wpT_pureD (v := ?_) (some 89) rfl rfl (by rfl) (fun w' => ?_) ?_
                            rotate_left
                            · (go_simp; try with_reducible rfl)
                            try simp only [Act.put, List.setIfInBounds_toArray, List.set_cons_zero, List.set_cons_succ]
                            refine wpT_pureD (v := ?_) (some 90) rfl rfl (by rfl) (fun w' => ?_) ?_
                            rotate_left
                            · (go_simp; try with_reducible rfl)
                            try simp only [Act.put, List.setIfInBounds_toArray, List.set_cons_zero, List.set_cons_succ]
                            refine wpT_readD (v := ?_) (some 91) rfl rfl (by rfl) (fun w' hw => ?_) ?_
                            rotate_left
                            · (obtain ⟨q0, q1, q2, q3⟩ := hw; go_simp; try with_reducible rfl)
                            try simp only [Act.put, List.setIfInBounds_toArray, List.set_cons_zero, List.set_cons_succ]
                            refine wpT_pureD (v := ?_) (some 92) rfl rfl (by rfl) (fun w' => ?_) ?_
                            rotate_left
                            · (go_simp; try with_reducible rfl)
                            try simp only [Act.put, List.setIfInBounds_toArray, List.set_cons_zero, List.set_cons_succ]
                            refine wpT_pureD (v := ?_) (some 93) rfl rfl (by rfl) (fun w' => ?_) ?_
                            rotate_left
                            · (go_simp; try with_reducible rfl)
                            try simp only [Act.put, List.setIfInBounds_toArray, List.set_cons_zero, List.set_cons_succ]
                            refine wpT_pureD (v := ?_) (some 94) rfl rfl (by rfl) (fun w' => ?_) ?_
                            rotate_left
                            · (go_simp; try with_reducible rfl)
                            try simp only [Act.put, List.setIfInBounds_toArray, List.set_cons_zero, List.set_cons_succ]
                            refine wpT_pureD (v := ?_) (some 95) rfl rfl (by rfl) (fun w' => ?_) ?_
                            rotate_left
                            · (go_simp; try with_reducible rfl)
                            try simp only [Act.put, List.setIfInBounds_toArray, List.set_cons_zero, List.set_cons_succ]
                            refine wpT_readD (v := ?_) (some 96) rfl rfl (by rfl) (fun w' hw => ?_) ?_
                            rotate_left
                            · (obtain ⟨q0, q1, q2, q3⟩ := hw; go_simp; try with_reducible rfl)
                            try simp only [Act.put, List.setIfInBounds_toArray, List.set_cons_zero, List.set_cons_succ]
                            refine wpT_pureD (v := ?_) (some 97) rfl rfl (by rfl) (fun w' => ?_) ?_
                            rotate_left
                            · (go_simp; try with_reducible rfl)
                            try simp only [Act.put, List.setIfInBounds_toArray, List.set_cons_zero, List.set_cons_succ]
                            refine wpT_pureD (v := ?_) (some 98) rfl rfl (by rfl) (fun w' => ?_) ?_
                            rotate_left
                            · (go_simp; try with_reducible rfl)
                            try simp only [Act.put, List.setIfInBounds_toArray, List.set_cons_zero, List.set_cons_succ]
                            refine wpT_pureD (v := ?_) (some 99) rfl rfl (by rfl) (fun w' => ?_) ?_
                            rotate_left
                            · (go_simp; try with_reducible rfl)
                            try simp only [Act.put, List.setIfInBounds_toArray, List.set_cons_zero, List.set_cons_succ]
                            refine wpT_pureD (v := ?_) (some 100) rfl rfl (by rfl) (fun w' => ?_) ?_
                            rotate_left
                            · (go_simp; try with_reducible rfl)
                            try simp only [Act.put, List.setIfInBounds_toArray, List.set_cons_zero, List.set_cons_succ]
                            refine wpT_readD (v := ?_) (some 101) rfl rfl (by rfl) (fun w' hw => ?_) ?_
                            rotate_left
                            · (obtain ⟨q0, q1, q2, q3⟩ := hw; go_simp; try with_reducible rfl)
                            try simp only [Act.put, List.setIfInBounds_toArray, List.set_cons_zero, List.set_cons_succ]
                            refine wpT_pureD (v := ?_) (some 102) rfl rfl (by rfl) (fun w' => ?_) ?_
                            rotate_left
                            · (go_simp; try with_reducible rfl)
                            try simp only [Act.put, List.setIfInBounds_toArray, List.set_cons_zero, List.set_cons_succ]
                            refine wpT_pureD (v := ?_) (some 103) rfl rfl (by rfl) (fun w' => ?_) ?_
                            rotate_left
                            · (go_simp; try with_reducible rfl)
                            try simp only [Act.put, List.setIfInBounds_toArray, List.set_cons_zero, List.set_cons_succ]
                            refine wpT_pureD (v := ?_) (some 104) rfl rfl (by rfl) (fun w' => ?_) ?_
                            rotate_left
                            · (go_simp; try with_reducible rfl)
                            try simp only [Act.put, List.setIfInBounds_toArray, List.set_cons_zero, List.set_cons_succ]
                            refine wpT_skipD (some 105) rfl rfl (by rfl) ?_
                            try simp only [Act.put, List.setIfInBounds_toArray, List.set_cons_zero, List.set_cons_succ]
                            refine wpT_skipD (some 106) rfl rfl (by rfl) ?_
                            try simp only [Act.put, List.setIfInBounds_toArray, List.set_cons_zero, List.set_cons_succ]
                            refine wpT_skipD (some 107) rfl rfl (by rfl) ?_
                            try simp only [Act.put, List.setIfInBounds_toArray, List.set_cons_zero, List.set_cons_succ]
                            refine wpT_pureD (v := ?_) (some 108) rfl rfl (by rfl) (fun w' => ?_) ?_
                            rotate_left
                            · (go_simp; try with_reducible rfl)
                            try simp only [Act.put, List.setIfInBounds_toArray, List.set_cons_zero, List.set_cons_succ]
                            refine wpT_pureD (v := ?_) (some 109) rfl rfl (by rfl) (fun w' => ?_) ?_
                            rotate_left
                            · (go_simp; try with_reducible rfl)
                            try simp only [Act.put, List.setIfInBounds_toArray, List.set_cons_zero, List.set_cons_succ]
                            refine wpT_skipD (some 110) rfl rfl (by rfl) ?_
                            try simp only [Act.put, List.setIfInBounds_toArray, List.set_cons_zero, List.set_cons_succ]
                            refine wpT_skipD (some 111) rfl rfl (by rfl) ?_
                            try simp only [Act.put, List.setIfInBounds_toArray, List.set_cons_zero, List.set_cons_succ]
                            refine wpT_skipD (some 112) rfl rfl (by rfl) ?_
                            try simp only [Act.put, List.setIfInBounds_toArray, List.set_cons_zero, List.set_cons_succ]
                            refine wpT_skipD (some 113) rfl rfl (by rfl) ?_
                            try simp only [Act.put, List.setIfInBounds_toArray, List.set_cons_zero, List.set_cons_succ]
                            refine wpT_skipD (some 114) rfl rfl (by rfl) ?_
                            try simp only [Act.put, List.setIfInBounds_toArray, List.set_cons_zero, List.set_cons_succ]
                            refine wpT_skipD (some 115) rfl rfl (by rfl) ?_
                            try simp only [Act.put, List.setIfInBounds_toArray, List.set_cons_zero, List.set_cons_succ]
                            refine wpT_skipD (some 116) rfl rfl (by rfl) ?_
                            try simp only [Act.put, List.setIfInBounds_toArray, List.set_cons_zero, List.set_cons_succ]
                            refine wpT_skipD (some 117) rfl rfl (by rfl) ?_
                            try simp only [Act.put, List.setIfInBounds_toArray, List.set_cons_zero, List.set_cons_succ]
                            refine wpT_pureD (v := ?_) (some 118) rfl rfl (by rfl) (fun w' => ?_) ?_
                            rotate_left
                            · (go_simp; try with_reducible rfl)
                            try simp only [Act.put, List.setIfInBounds_toArray, List.set_cons_zero, List.set_cons_succ]
                            refine wpT_end ?_
                            go_wp2_with fail
                            go_meet
                            refine ⟨congrArg Value.bool ?_, HC2.out.trans (Chg.refl _ _).drew⟩
                            rw [rfB_iff, Bool.eq_iff_iff]; simp; (try omega)
                          · skip
                            by_cases hE : d.ty = 3
                            · have g0 : (d.ty == 3) = true := beq_iff_eq.2 hE
                              refine wp_region_C (fun w' => w'.cell? ⟨Bd, 0, none⟩ = some (.int .i64 d.sec) ∧ w'.cell? ⟨Bd, 1, none⟩ = some (.int .i64 (d.at_ : Int)) ∧ w'.cell? ⟨Bd, 2, none⟩ = some (.int .i64 d.ty) ∧ w'.row? B = some (roA s t)) [(0, 0), (1, 1), (2, 0), (3, 0), (4, 0), (5, 1), (6, 0), (7, 0), (8, 0), (9, 0), (10, 1), (11, 0), (12, 0), (13, 0), (14, 0), (15, 1), (16, 0), (17, 0), (18, 0), (19, 0), (20, 1), (21, 0), (22, 0), (23, 0), (24, 0), (25, 1), (26, 0), (27, 1), (28, 0), (29, 1), (30, 1), (31, 0), (32, 0)] rfl (by kernel_rfl) ?hSR4 ?hTR4
                              case hSR4 => exact ⟨e0.out, e1.out, e2.out, HRB.out⟩
                              refine wpT_pureD (v := ?_) (some 86) rfl rfl (by rfl) (fun w' => ?_) ?_
                              rotate_left
                              · (go_simp; try with_reducible rfl)
                              try simp only [Act.put, List.setIfInBounds_toArray, List.set_cons_zero, List.set_cons_succ]
                              refine wpT_readD (v := ?_) (some 87) rfl rfl (by rfl) (fun w' hw => ?_) ?_
                              rotate_left
                              · (obtain ⟨q0, q1, q2, q3⟩ := hw; go_simp; try with_reducible rfl)
                              try simp only [Act.put, List.setIfInBounds_toArray, List.set_cons_zero, List.set_cons_succ]
                              refine wpT_pureD (v := ?_) (some 88) rfl rfl (by rfl) (fun w' => ?_) ?_
                              rotate_left
                              · (go_simp; try with_reducible rfl)
                              try simp only [Act.put, List.setIfInBounds_toArray, List.set_cons_zero, List.set_cons_succ]
                              refine wpT_pureD (v := ?_) (some 89) rfl rfl (by rfl) (fun w' => ?_) ?_
                              rotate_left
                              · (go_simp; try with_reducible rfl)
                              try simp only [Act.put, List.setIfInBounds_toArray, List.set_cons_zero, List.set_cons_succ]
                              refine wpT_pureD (v := ?_) (some 90) rfl rfl (by rfl) (fun w' => ?_) ?_
                              rotate_left
                              · (go_simp; try with_reducible rfl)
                              try simp only [Act.put, List.setIfInBounds_toArray, List.set_cons_zero, List.set_cons_succ]
                              refine wpT_readD (v := ?_) (some 91) rfl rfl (by rfl) (fun w' hw => ?_) ?_
                              rotate_left
                              · (obtain ⟨q0, q1, q2, q3⟩ := hw; go_simp; try with_reducible rfl)
                              try simp only [Act.put, List.setIfInBounds_toArray, List.set_cons_zero, List.set_cons_succ]
                              refine wpT_pureD (v := ?_) (some 92) rfl rfl (by rfl) (fun w' => ?_) ?_
                              rotate_left
                              · (go_simp; try with_reducible rfl)
                              try simp only [Act.put, List.setIfInBounds_toArray, List.set_cons_zero, List.set_cons_succ]
                              refine wpT_pureD (v := ?_) (some 93) rfl rfl (by rfl) (fun w' => ?_) ?_
                              rotate_left
                              · (go_simp; try with_reducible rfl)
                              try simp only [Act.put, List.setIfInBounds_toArray, List.set_cons_zero, List.set_cons_succ]
                              refine wpT_pureD (v := ?_) (some 94) rfl rfl (by rfl) (fun w' => ?_) ?_
                              rotate_left
                              · (go_simp; try with_reducible rfl)
                              try simp only [Act.put, List.setIfInBounds_toArray, List.set_cons_zero, List.set_cons_succ]
                              refine wpT_pureD (v := ?_) (some 95) rfl rfl (by rfl) (fun w' => ?_) ?_
                              rotate_left
                              · (go_simp; try with_reducible rfl)
                              try simp only [Act.put, List.setIfInBounds_toArray, List.set_cons_zero, List.set_cons_succ]
                              refine wpT_readD (v := ?_) (some 96) rfl rfl (by rfl) (fun w' hw => ?_) ?_
                              rotate_left
                              · (obtain ⟨q0, q1, q2, q3⟩ := hw; go_simp; try with_reducible rfl)
                              try simp only [Act.put, List.setIfInBounds_toArray, List.set_cons_zero, List.set_cons_succ]
                              refine wpT_pureD (v := ?_) (some 97) rfl rfl (by rfl) (fun w' => ?_) ?_
                              rotate_left
                              · (go_simp; try with_reducible rfl)
                              try simp only [Act.put, List.setIfInBounds_toArray, List.set_cons_zero, List.set_cons_succ]
                              refine wpT_pureD (v := ?_) (some 98) rfl rfl (by rfl) (fun w' => ?_) ?_
                              rotate_left
                              · (go_simp; try with_reducible rfl)
                              try simp only [Act.put, List.setIfInBounds_toArray, List.set_cons_zero, List.set_cons_succ]
                              refine wpT_pureD (v := ?_) (some 99) rfl rfl (by rfl) (fun w' => ?_) ?_
                              rotate_left
                              · (go_simp; try with_reducible rfl)
                              try simp only [Act.put, List.setIfInBounds_toArray, List.set_cons_zero, List.set_cons_succ]
                              refine wpT_pureD (v := ?_) (some 100) rfl rfl (by rfl) (fun w' => ?_) ?_
                              rotate_left
                              · (go_simp; try with_reducible rfl)
                              try simp only [Act.put, List.setIfInBounds_toArray, List.set_cons_zero, List.set_cons_succ]
                              refine wpT_readD (v := ?_) (some 101) rfl rfl (by rfl) (fun w' hw => ?_) ?_
                              rotate_left
                              · (obtain ⟨q0, q1, q2, q3⟩ := hw; go_simp; try with_reducible rfl)
                              try simp only [Act.put, List.setIfInBounds_toArray, List.set_cons_zero, List.set_cons_succ]
                              refine wpT_pureD (v := ?_) (some 102) rfl rfl (by rfl) (fun w' => ?_) ?_
                              rotate_left
                              · (go_simp; try with_reducible rfl)
                              try simp only [Act.put, List.setIfInBounds_toArray, List.set_cons_zero, List.set_cons_succ]
                              refine wpT_pureD (v := ?_) (some 103) rfl rfl (by rfl) (fun w' => ?_) ?_
                              rotate_left
                              · (go_simp; try with_reducible rfl)
                              try simp only [Act.put, List.setIfInBounds_toArray, List.set_cons_zero, List.set_cons_succ]
                              refine wpT_pureD (v := ?_) (some 104) rfl rfl (by rfl) (fun w' => ?_) ?_
                              rotate_left
                              · (go_simp; try with_reducible rfl)
                              try simp only [Act.put, List.setIfInBounds_toArray, List.set_cons_zero, List.set_cons_succ]
                              refine wpT_pureD (v := ?_) (some 105) rfl rfl (by rfl) (fun w' => ?_) ?_
                              rotate_left
                              · (go_simp; try with_reducible rfl)
                              try simp only [Act.put, List.setIfInBounds_toArray, List.set_cons_zero, List.set_cons_succ]
                              refine wpT_readD (v := ?_) (some 106) rfl rfl (by rfl) (fun w' hw => ?_) ?_
                              rotate_left
                              · (obtain ⟨q0, q1, q2, q3⟩ := hw; go_simp; try with_reducible rfl)
                              try simp only [Act.put, List.setIfInBounds_toArray, List.set_cons_zero, List.set_cons_succ]
                              refine wpT_pureD (v := ?_) (some 107) rfl rfl (by rfl) (fun w' => ?_) ?_
                              rotate_left
                              · (go_simp; try with_reducible rfl)
                              try simp only [Act.put, List.setIfInBounds_toArray, List.set_cons_zero, List.set_cons_succ]
                              refine wpT_pureD (v := ?_) (some 108) rfl rfl (by rfl) (fun w' => ?_) ?_
                              rotate_left
                              · (go_simp; try with_reducible rfl)
                              try simp only [Act.put, List.setIfInBounds_toArray, List.set_cons_zero, List.set_cons_succ]
                              refine wpT_pureD (v := ?_) (some 109) rfl rfl (by rfl) (fun w' => ?_) ?_
                              rotate_left
                              · (go_simp; try with_reducible rfl)
                              try simp only [Act.put, List.setIfInBounds_toArray, List.set_cons_zero, List.set_cons_succ]
                              refine wpT_skipD (some 110) rfl rfl (by rfl) ?_
                              try simp only [Act.put, List.setIfInBounds_toArray, List.set_cons_zero, List.set_cons_succ]
                              refine wpT_skipD (some 111) rfl rfl (by rfl) ?_
                              try simp only [Act.put, List.setIfInBounds_toArray, List.set_cons_zero, List.set_cons_succ]
                              refine wpT_skipD (some 112) rfl rfl (by rfl) ?_
                              try simp only [Act.put, List.setIfInBounds_toArray, List.set_cons_zero, List.set_cons_succ]
                              refine wpT_skipD (some 113) rfl rfl (by rfl) ?_
                              try simp only [Act.put, List.setIfInBounds_toArray, List.set_cons_zero, List.set_cons_succ]
                              refine wpT_skipD (some 114) rfl rfl (by rfl) ?_
                              try simp only [Act.put, List.setIfInBounds_toArray, List.set_cons_zero, List.set_cons_succ]
                              refine wpT_skipD (some 115) rfl rfl (by rfl) ?_
                              try simp only [Act.put, List.setIfInBounds_toArray, List.set_cons_zero, List.set_cons_succ]
                              refine wpT_skipD (some 116) rfl rfl (by rfl) ?_
                              try simp only [Act.put, List.setIfInBounds_toArray, List.set_cons_zero, List.set_cons_succ]
                              refine wpT_skipD (some 117) rfl rfl (by rfl) ?_
                              try simp only [Act.put, List.setIfInBounds_toArray, List.set_cons_zero, List.set_cons_succ]
                              refine wpT_pureD (v := ?_) (some 118) rfl rfl (by rfl) (fun w' => ?_) ?_
                              rotate_left
                              · (go_simp; try with_reducible rfl)
                              try simp only [Act.put, List.setIfInBounds_toArray, List.set_cons_zero, List.set_cons_succ]
                              refine wpT_end ?_
                              go_wp2_with fail
                              go_meet
                              refine ⟨congrArg Value.bool ?_, HC2.out.trans (Chg.refl _ _).drew⟩
                              rw [rfB_iff, Bool.eq_iff_iff]; simp; (try omega)
                            · skip
                              have g0 : (d.ty == 3) = false := beq_eq_false_iff_ne.2 hE
                              have v1 : wrap64 ((d.at_ : Int) + 4) = ((d.at_ + 4 : Nat) : Int) := w64add (b := 4) (by have := HLR.out; omega)
                              refine wp_region_C (fun w' => w'.cell? ⟨Bd, 0, none⟩ = some (.int .i64 d.sec) ∧ w'.cell? ⟨Bd, 1, none⟩ = some (.int .i64 (d.at_ : Int)) ∧ w'.cell? ⟨Bd, 2, none⟩ = some (.int .i64 d.ty) ∧ w'.row? B = some (roA s t)) [(0, 0), (1, 1), (2, 0), (3, 0), (4, 0), (5, 1), (6, 0), (7, 0), (8, 0), (9, 0), (10, 1), (11, 0), (12, 0), (13, 0), (14, 0), (15, 1), (16, 0), (17, 0), (18, 0), (19, 0), (20, 1), (21, 0), (22, 0), (23, 0), (24, 0), (25, 1), (26, 0), (27, 1), (28, 0), (29, 1), (30, 2), (31, 0), (32, 0)] rfl (by kernel_rfl) ?hSRz ?hTRz
                              case hSRz => exact ⟨e0.out, e1.out, e2.out, HRB.out⟩
                              refine wpT_pureD (v := ?_) (some 86) rfl rfl (by rfl) (fun w' => ?_) ?_
                              rotate_left
                              · (go_simp; try with_reducible rfl)
                              try simp only [Act.put, List.setIfInBounds_toArray, List.set_cons_zero, List.set_cons_succ]
                              refine wpT_readD (v := ?_) (some 87) rfl rfl (by rfl) (fun w' hw => ?_) ?_
                              rotate_left
                              · (obtain ⟨q0, q1, q2, q3⟩ := hw; go_simp; try with_reducible rfl)
                              try simp only [Act.put, List.setIfInBounds_toArray, List.set_cons_zero, List.set_cons_succ]
                              refine wpT_pureD (v := ?_) (some 88) rfl rfl (by rfl) (fun w' => ?_) ?_
                              rotate_left
                              · (go_simp; try with_reducible rfl)
                              try simp only [Act.put, List.setIfInBounds_toArray, List.set_cons_zero, List.set_cons_succ]
                              refine wpT_pureD (v := ?_) (some 89) rfl rfl (by rfl) (fun w' => ?_) ?_
                              rotate_left
                              · (go_simp; try with_reducible rfl)
                              try simp only [Act.put, List.setIfInBounds_toArray, List.set_cons_zero, List.set_cons_succ]
                              refine wpT_pureD (v := ?_) (some 90) rfl rfl (by rfl) (fun w' => ?_) ?_
                              rotate_left
                              · (go_simp; try with_reducible rfl)
                              try simp only [Act.put, List.setIfInBounds_toArray, List.set_cons_zero, List.set_cons_succ]
                              refine wpT_readD (v := ?_) (some 91) rfl rfl (by rfl) (fun w' hw => ?_) ?_
                              rotate_left
                              · (obtain ⟨q0, q1, q2, q3⟩ := hw; go_simp; try with_reducible rfl)
                              try simp only [Act.put, List.setIfInBounds_toArray, List.set_cons_zero, List.set_cons_succ]
                              refine wpT_pureD (v := ?_) (some 92) rfl rfl (by rfl) (fun w' => ?_) ?_
                              rotate_left
                              · (go_simp; try with_reducible rfl)
                              try simp only [Act.put, List.setIfInBounds_toArray, List.set_cons_zero, List.set_cons_succ]
                              refine wpT_pureD (v := ?_) (some 93) rfl rfl (by rfl) (fun w' => ?_) ?_
                              rotate_left
                              · (go_simp; try with_reducible rfl)
                              try simp only [Act.put, List.setIfInBounds_toArray, List.set_cons_zero, List.set_cons_succ]
                              refine wpT_pureD (v := ?_) (some 94) rfl rfl (by rfl) (fun w' => ?_) ?_
                              rotate_left
                              · (go_simp; try with_reducible rfl)
                              try simp only [Act.put, List.setIfInBounds_toArray, List.set_cons_zero, List.set_cons_succ]
                              refine wpT_pureD (v := ?_) (some 95) rfl rfl (by rfl) (fun w' => ?_) ?_
                              rotate_left
                              · (go_simp; try with_reducible rfl)
                              try simp only [Act.put, List.setIfInBounds_toArray, List.set_cons_zero, List.set_cons_succ]
                              refine wpT_readD (v := ?_) (some 96) rfl rfl (by rfl) (fun w' hw => ?_) ?_
                              rotate_left
                              · (obtain ⟨q0, q1, q2, q3⟩ := hw; go_simp; try with_reducible rfl)
                              try simp only [Act.put, List.setIfInBounds_toArray, List.set_cons_zero, List.set_cons_succ]
                              refine wpT_pureD (v := ?_) (some 97) rfl rfl (by rfl) (fun w' => ?_) ?_
                              rotate_left
                              · (go_simp; try with_reducible rfl)
                              try simp only [Act.put, List.setIfInBounds_toArray, List.set_cons_zero, List.set_cons_succ]
                              refine wpT_pureD (v := ?_) (some 98) rfl rfl (by rfl) (fun w' => ?_) ?_
                              rotate_left
                              · (go_simp; try with_reducible rfl)
                              try simp only [Act.put, List.setIfInBounds_toArray, List.set_cons_zero, List.set_cons_succ]
                              refine wpT_pureD (v := ?_) (some 99) rfl rfl (by rfl) (fun w' => ?_) ?_
                              rotate_left
                              · (go_simp; try with_reducible rfl)
                              try simp only [Act.put, List.setIfInBounds_toArray, List.set_cons_zero, List.set_cons_succ]
                              refine wpT_pureD (v := ?_) (some 100) rfl rfl (by rfl) (fun w' => ?_) ?_
                              rotate_left
                              · (go_simp; try with_reducible rfl)
                              try simp only [Act.put, List.setIfInBounds_toArray, List.set_cons_zero, List.set_cons_succ]
                              refine wpT_readD (v := ?_) (some 101) rfl rfl (by rfl) (fun w' hw => ?_) ?_
                              rotate_left
                              · (obtain ⟨q0, q1, q2, q3⟩ := hw; go_simp; try with_reducible rfl)
                              try simp only [Act.put, List.setIfInBounds_toArray, List.set_cons_zero, List.set_cons_succ]
                              refine wpT_pureD (v := ?_) (some 102) rfl rfl (by rfl) (fun w' => ?_) ?_
                              rotate_left
                              · (go_simp; try with_reducible rfl)
                              try simp only [Act.put, List.setIfInBounds_toArray, List.set_cons_zero, List.set_cons_succ]
                              refine wpT_pureD (v := ?_) (some 103) rfl rfl (by rfl) (fun w' => ?_) ?_
                              rotate_left
                              · (go_simp; try with_reducible rfl)
                              try simp only [Act.put, List.setIfInBounds_toArray, List.set_cons_zero, List.set_cons_succ]
                              refine wpT_pureD (v := ?_) (some 104) rfl rfl (by rfl) (fun w' => ?_) ?_
                              rotate_left
                              · (go_simp; try with_reducible rfl)
                              try simp only [Act.put, List.setIfInBounds_toArray, List.set_cons_zero, List.set_cons_succ]
                              refine wpT_pureD (v := ?_) (some 105) rfl rfl (by rfl) (fun w' => ?_) ?_
                              rotate_left
                              · (go_simp; try with_reducible rfl)
                              try simp only [Act.put, List.setIfInBounds_toArray, List.set_cons_zero, List.set_cons_succ]
                              refine wpT_readD (v := ?_) (some 106) rfl rfl (by rfl) (fun w' hw => ?_) ?_
                              rotate_left
                              · (obtain ⟨q0, q1, q2, q3⟩ := hw; go_simp; try with_reducible rfl)
                              try simp only [Act.put, List.setIfInBounds_toArray, List.set_cons_zero, List.set_cons_succ]
                              refine wpT_pureD (v := ?_) (some 107) rfl rfl (by rfl) (fun w' => ?_) ?_
                              rotate_left
                              · (go_simp; try with_reducible rfl)
                              try simp only [Act.put, List.setIfInBounds_toArray, List.set_cons_zero, List.set_cons_succ]
                              refine wpT_pureD (v := ?_) (some 108) rfl rfl (by rfl) (fun w' => ?_) ?_
                              rotate_left
                              · (go_simp; try with_reducible rfl)
                              try simp only [Act.put, List.setIfInBounds_toArray, List.set_cons_zero, List.set_cons_succ]
                              refine wpT_pureD (v := ?_) (some 109) rfl rfl (by rfl) (fun w' => ?_) ?_
                              rotate_left
                              · (go_simp; try with_reducible rfl)
                              try simp only [Act.put, List.setIfInBounds_toArray, List.set_cons_zero, List.set_cons_succ]
                              refine wpT_pureD (v := ?_) (some 110) rfl rfl (by rfl) (fun w' => ?_) ?_
                              rotate_left
                              · (go_simp; try with_reducible rfl)
                              try simp only [Act.put, List.setIfInBounds_toArray, List.set_cons_zero, List.set_cons_succ]
                              refine wpT_readD (v := ?_) (some 111) rfl rfl (by rfl) (fun w' hw => ?_) ?_
                              rotate_left
                              · (obtain ⟨q0, q1, q2, q3⟩ := hw; go_simp; try with_reducible rfl)
                              try simp only [Act.put, List.setIfInBounds_toArray, List.set_cons_zero, List.set_cons_succ]
                              refine wpT_pureD (v := ?_) (some 112) rfl rfl (by rfl) (fun w' => ?_) ?_
                              rotate_left
                              · (go_simp; try with_reducible rfl)
                              try simp only [Act.put, List.setIfInBounds_toArray, List.set_cons_zero, List.set_cons_succ]
                              refine wpT_load_part a82 (roA s t).toList (some 113) _ rfl rfl rfl (by rfl) rfl rfl (fun w' hw j u hu => by rw [Nat.zero_add, row_cell hw.2.2.2, ← Array.getElem?_toList]; exact hu) ?_
                              try simp only [Act.put, List.setIfInBounds_toArray, List.set_cons_zero, List.set_cons_succ]
                              try simp only [Act.put, List.setIfInBounds_toArray, List.set_cons_zero, List.set_cons_succ]
                              refine wpT_pureD (v := ?_) (some 114) rfl rfl (by rfl) (fun w' => ?_) ?_
                              rotate_left
                              · (go_simp; try with_reducible rfl)
                              try simp only [Act.put, List.setIfInBounds_toArray, List.set_cons_zero, List.set_cons_succ]
                              refine wpT_readD (v := ?_) (some 115) rfl rfl (by rfl) (fun w' hw => ?_) ?_
                              rotate_left
                              · (obtain ⟨q0, q1, q2, q3⟩ := hw; go_simp; try with_reducible rfl)
                              try simp only [Act.put, List.setIfInBounds_toArray, List.set_cons_zero, List.set_cons_succ]
                              refine wpT_eff rfl (by rfl) (fun K hK => ?_)
                              go_wp2_with fail
                              refine (rsize_any s t d.sec _).mono ?_
                              rintro e w5 ⟨rfl, hc5⟩
                              have HC5 := Lib.hid hc5
                              clear hc5
                              go_wp2_with fail
                              refine hK _ _ ⟨keepc e0.out HC5.out (by simp), keepc e1.out HC5.out (by simp), keepc e2.out HC5.out (by simp), (HC5.out.row (row_lt HRB.out) (by simp)).trans HRB.out⟩ ?_
                              clear hK K
                              try simp only [Act.put, List.setIfInBounds_toArray, List.set_cons_zero, List.set_cons_succ]
                              refine wpT_pureD (v := ?_) (some 117) rfl rfl (by rfl) (fun w' => ?_) ?_
                              rotate_left
                              · (go_simp; try with_reducible rfl)
                              try simp only [Act.put, List.setIfInBounds_toArray, List.set_cons_zero, List.set_cons_succ]
                              refine wpT_pureD (v := ?_) (some 118) rfl rfl (by rfl) (fun w' => ?_) ?_
                              rotate_left
                              · (go_simp; try with_reducible rfl)
                              try simp only [Act.put, List.setIfInBounds_toArray, List.set_cons_zero, List.set_cons_succ]
                              refine wpT_end ?_
                              go_wp2_with fail
                              go_meet
                              refine ⟨congrArg Value.bool ?_, (HC2.out.trans (Chg.refl _ _).drew).trans HC5.out⟩
                              rw [rfB_iff, Bool.eq_iff_iff]; simp; (try omega)
                  case rest =>
                    obtain ⟨rfl, hcw⟩ := hcut
                    have HCW := Lib.hid hcw
                    clear hcw
                    cases hb : rfB s d
                    case false =>
                      have HBD := Lib.hid hb
                      clear hb
                      go_wp2
                      go_ret
                      exact ⟨by rw [show rightB s = false by unfold rightB; rw [all_bad HD.out HBD.out, Bool.and_false]]; rfl, HCZ.out.trans HCW.out⟩
                    case true =>
                      have HBD := Lib.hid hb
                      clear hb
                      rw [show (!true) = false from rfl]
                      go_wp2_with fail
                      case roundEnd => exact ⟨⟨k3 + 1, HKN.out, by rw [HW.out], fun j x hj hx => by
                        by_cases e : j = k3
                        · subst e; rw [HD.out] at hx; obtain rfl := Option.some.inj hx; exact HBD.out
                        · exact HALL3.out j x (by omega) hx, HCW.out⟩, by rw [HW.out]; simp only [intOf, Int.toNat_natCast]; have := HKN.out; omega⟩
                · have dI : ¬ (k3 : Int) < (s.nr : Int) := by omega
                  have HR : Hid (s.R.all (rfB s) = true) := Lib.hid (all_good fun j x hx => HALL3.out j x (by
                    have := (List.getElem?_eq_some_iff.1 hx).1
                    have := HS.out.Rn
                    omega) hx)
                  clear hkn
                  go_wp2
                  go_ret
                  exact ⟨by rw [show rightB s = true by unfold rightB; rw [HB.out, HF.out, HR.out]; rfl]; rfl, HCZ.out.trans HCH3.out⟩
end Go.Proofs.L
