/- Proved here: lemmas and contracts (RunsWalk) for the laws of this seat, for all values of the stated types; no further condition. -/
import Derived.Test.YtfalldoimbedbaaSame
open Go Go.RowKit Go.Lib
namespace Go.Proofs.L
theorem and_i64 (n : Int) (m k : Nat) (hm : m = 2 ^ k - 1) (hk : k < 32) : bits .and .i64 n (m : Int) = n % ((2 ^ k : Nat) : Int) := by
  have hp : 2 ^ k < 4294967296 := by have := Nat.pow_lt_pow_right (a := 2) (by decide) hk; simpa using this
  have hp0 := Nat.two_pow_pos k
  have h1 : (BitVec.ofInt 64 (m : Int)).toNat = m := by
    rw [BitVec.ofInt_natCast, BitVec.toNat_ofNat]; exact Nat.mod_eq_of_lt (by omega)
  have h2 : ((BitVec.ofInt 64 n).toNat : Int) = n % 18446744073709551616 := by
    rw [BitVec.toNat_ofInt]
    have := Int.emod_nonneg n (show (18446744073709551616 : Int) ≠ 0 by decide)
    show ((n % ((2 ^ 64 : Nat) : Int)).toNat : Int) = _
    rw [Int.toNat_of_nonneg (Int.emod_nonneg _ (by decide))]; rfl
  show IntKind.i64.wrap ((BitVec.ofInt 64 n &&& BitVec.ofInt 64 (m : Int)).toNat : Int) = _
  rw [BitVec.toNat_and, h1, hm, Nat.and_two_pow_sub_one_eq_mod, Int.natCast_emod, h2]
  have hd : ((2 ^ k : Nat) : Int) ∣ 18446744073709551616 := by
    have : (2 : Nat) ^ k ∣ 2 ^ 64 := Nat.pow_dvd_pow 2 (by omega)
    exact Int.natCast_dvd_natCast.2 this
  rw [Int.emod_emod_of_dvd _ hd]
  have ha := Int.emod_nonneg n (show ((2 ^ k : Nat) : Int) ≠ 0 by omega)
  have hb := Int.emod_lt_of_pos n (show (0 : Int) < ((2 ^ k : Nat) : Int) by omega)
  rw [i64w, IntWalk.wrap64_in _ ⟨by omega, by omega⟩]
theorem Chg.mono' {E E' : List Nat} {a b} (h : Chg E a b) (hE : ∀ k ∈ E, k ∈ E') : Chg E' a b := h.mono hE
set_option maxRecDepth 100000 in
set_option maxHeartbeats 6400000 in
theorem runs_walk (sb so len cap0 : Nat) (p : Option Addr) (hlen : len ≤ 300) (w : World) (hp : 0 < len → p = some ⟨sb, so, none⟩)
    (hcell : ∀ k, k < len → ∃ (kd nn : Int) (x : Nat), nn < 9223372036854775808 ∧ x < 4294967296 ∧ w.cell? ⟨sb, so + k * 3, none⟩ = some (.int .i64 kd) ∧ w.cell? ⟨sb, so + k * 3 + 1, none⟩ = some (.int .i64 nn) ∧ w.cell? ⟨sb, so + k * 3 + 2, none⟩ = some (.int .u32 (x : Int))) :
    Calls Try.prog 5 #[.slice p len cap0] w fun e w' => e = .returned (.bool true) ∧ Below w.heap.size w w' := by
  have dl : decide ((len : Int) > 300) = false := by simp; omega
  have dl2 : decide (300 < (len : Int)) = false := by simp; omega
  have HC := Lib.hid hcell
  have HP := Lib.hid hp
  have HL := Lib.hid hlen
  clear hcell hp hlen
  go_enter Try.func5, Try.ntmps5
  go_wp2_with fail
  refine (fit_ok w).mono ?_
  rintro e w0 ⟨rfl, hB0⟩
  have HB0 := Lib.hid hB0
  clear hB0
  go_wp2_with fail
  refine (new_any w0).mono ?_
  rintro e w1 ⟨rfl, hF1, hC1⟩
  have HF1 := Lib.hid hF1
  have HB1 : Hid (Below w.heap.size w w1) := Lib.hid (chg_below HB0.out hC1 (by simp) HB0.out.size)
  have HN1 : Hid (w.heap.size ≤ w0.heap.size ∧ w0.heap.size < w1.heap.size) := Lib.hid ⟨HB0.out.size, hF1.lt⟩
  clear hF1 hC1 HB0
  generalize w0.heap.size = b0 at *
  go_wp2_with fail
  refine (rnew_any w1).mono ?_
  rintro e w2 ⟨rfl, hF2, hC2⟩
  have HF2 := Lib.hid (HF1.out.keep hC2 (by simp))
  have HR2 := Lib.hid hF2
  have HB2 : Hid (Below w.heap.size w w2) := Lib.hid (chg_below HB1.out hC2 (by simp) HB1.out.size)
  have HN2 : Hid (w.heap.size ≤ b0 ∧ w.heap.size ≤ w1.heap.size ∧ b0 ≠ w1.heap.size) := Lib.hid ⟨HN1.out.1, HB1.out.size, by have := HN1.out; omega⟩
  clear hF2 hC2 HF1 HB1 HN1
  generalize w1.heap.size = rb at *
  go_wp2_with fail
  go_loopw [19, 3] (fun i pt wr => ∃ (k b : Nat) (S : FS), k ≤ len ∧ i = .int .i64 k ∧ pt = .pointer (some ⟨b, 0, none⟩) ∧ S.Ok ∧ Fl wr b S ∧ Fl wr rb S ∧ (w.heap.size ≤ b ∧ w.heap.size ≤ rb ∧ b ≠ rb) ∧ Below w.heap.size w wr) (fun i _ _ => len - (intOf i).toNat)
  case atStart => exact ⟨0, b0, newS, Nat.zero_le _, rfl, rfl, newS_ok, HF2.out, HR2.out, HN2.out, HB2.out⟩
  case round =>
    obtain ⟨k, b, S, hk, rfl, rfl, hS, hF, hR, hN, hB⟩ := hrel
    obtain ⟨wo, rfl⟩ : ∃ wo : World, wo = wr := ⟨_, rfl⟩
    have HS := Lib.hid hS
    have HF0 := Lib.hid hF
    have HR0 := Lib.hid hR
    have HN := Lib.hid hN
    have HB0 := Lib.hid hB
    clear hS hF hR hN hB
    by_cases hlt : k < len
    · have dk : decide ((k : Int) < (len : Int)) = true := by simp; omega
      obtain ⟨kd, nn, x, hnn, hx, c0, c1, c2⟩ := HC.out k hlt
      have hsb := World.block_lt_of_cell? w _ c0
      have hpp := HP.out (by omega)
      subst hpp
      have s0 : wo.cell? ⟨sb, so + k * 3, none⟩ = some (.int .i64 kd) := (HB0.out.cell (p := ⟨sb, so + k * 3, none⟩) hsb).trans c0
      have s1 : wo.cell? ⟨sb, so + k * 3 + 1, none⟩ = some (.int .i64 nn) := (HB0.out.cell (p := ⟨sb, so + k * 3 + 1, none⟩) hsb).trans c1
      have s2 : wo.cell? ⟨sb, so + k * 3 + 2, none⟩ = some (.int .u32 (x : Int)) := (HB0.out.cell (p := ⟨sb, so + k * 3 + 2, none⟩) hsb).trans c2
      have HX := Lib.hid hx
      have HNn := Lib.hid hnn
      clear c0 c1 c2 hsb hx hnn
      go_upto_block 2 with (fail)
      obtain ⟨W3, hW3⟩ : ∃ W3, W3 = wo.alloc (.cells #[.int .i64 kd, .int .i64 nn, .int .u32 (x : Int)] 41) := ⟨_, rfl⟩
      rw [← hW3]
      obtain ⟨tb, htb⟩ : ∃ tb, tb = wo.heap.size := ⟨_, rfl⟩
      rw [← htb]
      have hA : Chg [] wo W3 := by rw [hW3]; exact (Chg.refl _ _).alloc _
      have hrow : W3.row? tb = some #[.int .i64 kd, .int .i64 nn, .int .u32 (x : Int)] := by rw [hW3, htb]; exact row_alloc_at _ _ _ _ rfl
      have q0 : W3.cell? ⟨tb, 0, none⟩ = some (.int .i64 kd) := by rw [row_cell hrow]; rfl
      have qq1 : W3.cell? ⟨tb, 1, none⟩ = some (.int .i64 nn) := by rw [row_cell hrow]; rfl
      have qq : W3.cell? ⟨tb, 2, none⟩ = some (.int .u32 (x : Int)) := by rw [row_cell hrow]; rfl
      have HF := Lib.hid (HF0.out.keep hA (by simp))
      have HR := Lib.hid (HR0.out.keep hA (by simp))
      have HB := Lib.hid (chg_below HB0.out hA (by simp) HB0.out.size)
      have HNe : Hid (tb ≠ b ∧ tb ≠ rb ∧ b ≠ rb ∧ tb < W3.heap.size) := Lib.hid ⟨by have := HF0.out.lt; omega, by have := HR0.out.lt; omega, HN.out.2.2, row_lt hrow⟩
      clear hW3 htb hA hrow s0 s1 s2 HF0 HR0 HB0
      go_cut [3, 7] (fun pt o wx => ∃ (b' : Nat) (S' : FS), pt = .pointer (some ⟨b', 0, none⟩) ∧ o = .bool true ∧ S'.Ok ∧ Fl wx b' S' ∧ Fl wx rb S' ∧ (w.heap.size ≤ b' ∧ w.heap.size ≤ rb ∧ b' ≠ rb) ∧ Below w.heap.size w wx)
      case first =>
        by_cases k0 : kd = 0
        · subst k0
          have qd : W3.drew.cell? ⟨tb, 2, none⟩ = some (.int .u32 (x : Int)) := qq
          have HA1 := Lib.hid (raise_in (HF.out.keep (E := []) (Chg.refl _ _).drew (by simp)) HS.out x HX.out)
          go_wp2_with fail
          refine wp_region_C (fun w' => w'.cell? ⟨tb, 2, none⟩ = some (.int .u32 (x : Int))) [(0, 0), (1, 0), (2, 1), (5, 0), (6, 0), (7, 1), (3, 2), (4, 0), (8, 2), (9, 0), (10, 0)] rfl (by kernel_rfl) ?hSA ?hTA
          case hSA => exact qd
          refine wpT_pureD (v := ?_) (some 38) rfl rfl (by rfl) (fun w' => ?_) ?_
          rotate_left
          · (go_simp; try with_reducible rfl)
          try simp only [Act.put, List.setIfInBounds_toArray, List.set_cons_zero, List.set_cons_succ]
          refine wpT_pureD (v := ?_) (some 39) rfl rfl (by rfl) (fun w' => ?_) ?_
          rotate_left
          · (go_simp; try with_reducible rfl)
          try simp only [Act.put, List.setIfInBounds_toArray, List.set_cons_zero, List.set_cons_succ]
          refine wpT_readD (v := ?_) (some 40) rfl rfl (by rfl) (fun w' hw => ?_) ?_
          rotate_left
          · (obtain q0 := hw; go_simp; try with_reducible rfl)
          try simp only [Act.put, List.setIfInBounds_toArray, List.set_cons_zero, List.set_cons_succ]
          refine wpT_pureD (v := ?_) (some 43) rfl rfl (by rfl) (fun w' => ?_) ?_
          rotate_left
          · (go_simp; try with_reducible rfl)
          try simp only [Act.put, List.setIfInBounds_toArray, List.set_cons_zero, List.set_cons_succ]
          refine wpT_pureD (v := ?_) (some 44) rfl rfl (by rfl) (fun w' => ?_) ?_
          rotate_left
          · (go_simp; try with_reducible rfl)
          try simp only [Act.put, List.setIfInBounds_toArray, List.set_cons_zero, List.set_cons_succ]
          refine wpT_readD (v := ?_) (some 45) rfl rfl (by rfl) (fun w' hw => ?_) ?_
          rotate_left
          · (obtain q0 := hw; go_simp; try with_reducible rfl)
          try simp only [Act.put, List.setIfInBounds_toArray, List.set_cons_zero, List.set_cons_succ]
          refine wpT_eff rfl (by rfl) (fun K hK => ?_)
          go_wp2_with fail
          refine HA1.out.mono ?_
          rintro e wa ⟨rfl, hF, hc⟩
          have HFwa := Lib.hid hF
          have HCwa := Lib.hid hc
          have qwa : wa.cell? ⟨tb, 2, none⟩ = some (.int .u32 (x : Int)) := (World.cell?_of_block (a := ⟨tb, 2, none⟩) (hc.block tb (World.block_lt_of_cell? _ _ qd) (by simp; first | exact HNe.out.1 | exact HNe.out.2.1))).trans qd
          clear hF hc
          go_wp2_with fail
          refine hK _ _ qwa ?_
          clear hK K
          try simp only [Act.put, List.setIfInBounds_toArray, List.set_cons_zero, List.set_cons_succ]
          refine wpT_pureD (v := ?_) (some 42) rfl rfl (by rfl) (fun w' => ?_) ?_
          rotate_left
          · (go_simp; try with_reducible rfl)
          try simp only [Act.put, List.setIfInBounds_toArray, List.set_cons_zero, List.set_cons_succ]
          refine wpT_eff rfl (by rfl) (fun K hK => ?_)
          have HA2 := Lib.hid (rraise_in (HR.out.keep (Chg.trans (Chg.mono (Chg.refl [] _).drew (by simp)) HCwa.out) (by simp; exact fun h => HNe.out.2.2.1 h.symm)) HS.out x HX.out)
          go_wp2_with fail
          refine HA2.out.mono ?_
          rintro e wb ⟨rfl, hF, hc⟩
          have HFwb := Lib.hid hF
          have HCwb := Lib.hid hc
          have qwb : wb.cell? ⟨tb, 2, none⟩ = some (.int .u32 (x : Int)) := (World.cell?_of_block (a := ⟨tb, 2, none⟩) (hc.block tb (World.block_lt_of_cell? _ _ qwa) (by simp; first | exact HNe.out.1 | exact HNe.out.2.1))).trans qwa
          clear hF hc
          go_wp2_with fail
          refine hK _ _ qwb ?_
          clear hK K
          try simp only [Act.put, List.setIfInBounds_toArray, List.set_cons_zero, List.set_cons_succ]
          refine wpT_pureD (v := ?_) (some 47) rfl rfl (by rfl) (fun w' => ?_) ?_
          rotate_left
          · (go_simp; try with_reducible rfl)
          try simp only [Act.put, List.setIfInBounds_toArray, List.set_cons_zero, List.set_cons_succ]
          refine wpT_pureD (v := ?_) (some 7) rfl rfl (by rfl) (fun w' => ?_) ?_
          rotate_left
          · (go_simp; try with_reducible rfl)
          try simp only [Act.put, List.setIfInBounds_toArray, List.set_cons_zero, List.set_cons_succ]
          refine wpT_end ?_
          go_wp2_with fail
          go_meet
          refine ⟨b, raiseT S x, rfl, by simp; rw [Bool.eq_iff_iff]; simp, raiseT_ok HS.out x, HFwa.out.keep HCwb.out (by simp; exact HNe.out.2.2.1), HFwb.out, HN.out, ?_⟩
          exact chg_below (chg_below HB.out.drew HCwa.out (by simp; exact HN.out.1) (by have := HB.out.size; simpa using this)) HCwb.out (by simp; exact HN.out.2.1) (by have := HB.out.size; have := HCwa.out.size; simp at this; omega)
        · by_cases k1 : kd = 1
          · subst k1
            clear k0
            have HFu := Lib.hid (fuel_in HF.out nn x)
            go_wp2_with fail
            refine HFu.out.mono ?_
            rintro e wf ⟨rfl, hF1, hC1⟩
            have HF1 := Lib.hid hF1
            have HR1 := Lib.hid (HR.out.keep hC1 (by simp; exact fun h => HNe.out.2.2.1 h.symm))
            have HB1 : Hid (Below w.heap.size w wf) := Lib.hid (chg_below HB.out hC1 (by simp; exact HN.out.1) HB.out.size)
            have bk : wf.heap[tb]? = W3.heap[tb]? := hC1.block tb HNe.out.2.2.2 (by simp; exact HNe.out.1)
            have qd1 : wf.drew.cell? ⟨tb, 1, none⟩ = some (.int .i64 nn) := (World.cell?_of_block (a := ⟨tb, 1, none⟩) bk).trans qq1
            have qd : wf.drew.cell? ⟨tb, 2, none⟩ = some (.int .u32 (x : Int)) := (World.cell?_of_block (a := ⟨tb, 2, none⟩) bk).trans qq
            have r2 := (HR1.out.keep (E := []) (Chg.refl _ _).drew (by simp)).c32
            have r3 := (HR1.out.keep (E := []) (Chg.refl _ _).drew (by simp)).c33
            have r4 : wf.cell? ⟨rb, 32, none⟩ = some (.int .i64 S.fu) := HR1.out.c32
            have r5 : wf.cell? ⟨rb, 33, none⟩ = some (.int .u32 (S.tn : Int)) := HR1.out.c33
            have f2 := HR1.out.fr 32
            have f3 := HR1.out.fr 33
            have hn2 : tb ≠ rb := HNe.out.2.1
            have hn3 : rb ≠ tb := fun h => HNe.out.2.1 h.symm
            have qe1 : wf.cell? ⟨tb, 1, none⟩ = some (.int .i64 nn) := qd1
            have qe : wf.cell? ⟨tb, 2, none⟩ = some (.int .u32 (x : Int)) := qd
            clear hF1 hC1 bk HFu qq qq1 q0
            by_cases hm : nn = -1
            · have HMm := Lib.hid hm
              have e1 : (nn ≤ -1) = True := by simp; omega
              have e2 : (nn < -1) = False := by simp; omega
              have e3 : (-1 ≤ nn) = True := by simp; omega
              have e4 : (-1 < nn) = False := by simp; omega
              clear hm
              go_wp2_with fail
              refine wp_region_C (fun w' => w'.cell? ⟨tb, 1, none⟩ = some (.int .i64 nn) ∧ w'.cell? ⟨tb, 2, none⟩ = some (.int .u32 (x : Int))) [(0, 0), (1, 0), (2, 0), (3, 1), (4, 0), (5, 0), (6, 1), (7, 0), (8, 0), (9, 2), (10, 0), (11, 0), (12, 2)] rfl (by kernel_rfl) ?hSC ?hTC
              case hSC => exact ⟨qd1, qd⟩
              refine wpT_pureD (v := ?_) (some 56) rfl rfl (by rfl) (fun w' => ?_) ?_
              rotate_left
              · (go_simp; try with_reducible rfl)
              try simp only [Act.put, List.setIfInBounds_toArray, List.set_cons_zero, List.set_cons_succ]
              refine wpT_pureD (v := ?_) (some 57) rfl rfl (by rfl) (fun w' => ?_) ?_
              rotate_left
              · (go_simp; try with_reducible rfl)
              try simp only [Act.put, List.setIfInBounds_toArray, List.set_cons_zero, List.set_cons_succ]
              refine wpT_pureD (v := ?_) (some 58) rfl rfl (by rfl) (fun w' => ?_) ?_
              rotate_left
              · (go_simp; try with_reducible rfl)
              try simp only [Act.put, List.setIfInBounds_toArray, List.set_cons_zero, List.set_cons_succ]
              refine wpT_readD (v := ?_) (some 59) rfl rfl (by rfl) (fun w' hw => ?_) ?_
              rotate_left
              · (obtain ⟨q0, q1⟩ := hw; go_simp; try with_reducible rfl)
              try simp only [Act.put, List.setIfInBounds_toArray, List.set_cons_zero, List.set_cons_succ]
              refine wpT_pureD (v := ?_) (some 60) rfl rfl (by rfl) (fun w' => ?_) ?_
              rotate_left
              · (go_simp; try with_reducible rfl)
              try simp only [Act.put, List.setIfInBounds_toArray, List.set_cons_zero, List.set_cons_succ]
              refine wpT_pureD (v := ?_) (some 61) rfl rfl (by rfl) (fun w' => ?_) ?_
              rotate_left
              · (go_simp; try with_reducible rfl)
              try simp only [Act.put, List.setIfInBounds_toArray, List.set_cons_zero, List.set_cons_succ]
              refine wpT_readD (v := ?_) (some 62) rfl rfl (by rfl) (fun w' hw => ?_) ?_
              rotate_left
              · (obtain ⟨q0, q1⟩ := hw; go_simp; try with_reducible rfl)
              try simp only [Act.put, List.setIfInBounds_toArray, List.set_cons_zero, List.set_cons_succ]
              refine wpT_pureD (v := ?_) (some 63) rfl rfl (by rfl) (fun w' => ?_) ?_
              rotate_left
              · (go_simp; try with_reducible rfl)
              try simp only [Act.put, List.setIfInBounds_toArray, List.set_cons_zero, List.set_cons_succ]
              refine wpT_pureD (v := ?_) (some 64) rfl rfl (by rfl) (fun w' => ?_) ?_
              rotate_left
              · (go_simp; try with_reducible rfl)
              try simp only [Act.put, List.setIfInBounds_toArray, List.set_cons_zero, List.set_cons_succ]
              refine wpT_eff rfl (by rfl) (fun K hK => ?_)
              go_wp2_with fail
              refine hK _ _ ⟨by go_simp, by go_simp⟩ ?_
              clear hK K
              try simp only [Act.put, List.setIfInBounds_toArray, List.set_cons_zero, List.set_cons_succ]
              refine wpT_pureD (v := ?_) (some 65) rfl rfl (by rfl) (fun w' => ?_) ?_
              rotate_left
              · (go_simp; try with_reducible rfl)
              try simp only [Act.put, List.setIfInBounds_toArray, List.set_cons_zero, List.set_cons_succ]
              refine wpT_pureD (v := ?_) (some 66) rfl rfl (by rfl) (fun w' => ?_) ?_
              rotate_left
              · (go_simp; try with_reducible rfl)
              try simp only [Act.put, List.setIfInBounds_toArray, List.set_cons_zero, List.set_cons_succ]
              refine wpT_eff rfl (by rfl) (fun K hK => ?_)
              go_wp2_with fail
              refine hK _ _ ⟨by go_simp, by go_simp⟩ ?_
              clear hK K
              try simp only [Act.put, List.setIfInBounds_toArray, List.set_cons_zero, List.set_cons_succ]
              refine wpT_end ?_
              go_wp2_with fail
              go_meet
              have hmx : max nn (-1) = -1 := by have := HMm.out; omega
              have hmy : max nn (-1) = nn := by have := HMm.out; omega
              have g := (HR1.out.set32 (-1)).set33 x
              have g2 := (HR1.out.set32 nn).set33 x
              refine ⟨b, { S with fu := max nn (-1), tn := x }, rfl, rfl, ⟨HS.out.f, HX.out, by show max nn (-1) < _; have := HNn.out; omega⟩, ?_, ?_, HN.out, ?_⟩
              · refine HF1.out.keep (E := [rb]) ?_ (by simp; exact HNe.out.2.2.1)
                first | exact (((Chg.refl _ _).setCell (Or.inl (by simp)) _).setCell (Or.inl (by simp)) _).drew | exact ((((Chg.refl _ _).drew).setCell (Or.inl (by simp)) _).setCell (Or.inl (by simp)) _)
              · first | (rw [hmx]; exact g.keep (E := []) (by first | exact (Chg.refl _ _).drew | exact Chg.refl _ _) (by simp)) | (rw [hmy]; exact g2.keep (E := []) (by first | exact (Chg.refl _ _).drew | exact Chg.refl _ _) (by simp))
              · refine chg_below (E := [rb]) HB1.out ?_ (by simp; exact HN.out.2.1) HB1.out.size
                first | exact (((Chg.refl _ _).setCell (Or.inl (by simp)) _).setCell (Or.inl (by simp)) _).drew | exact ((((Chg.refl _ _).drew).setCell (Or.inl (by simp)) _).setCell (Or.inl (by simp)) _)
            · by_cases hm2 : nn < -1
              · skip
                have e1 : (nn ≤ -1) = True := by simp; omega
                have e2 : (nn < -1) = True := by simp; omega
                have e3 : (-1 ≤ nn) = False := by simp; omega
                have e4 : (-1 < nn) = False := by simp; omega
                go_wp2_with fail
                refine wp_region_C (fun w' => w'.cell? ⟨tb, 1, none⟩ = some (.int .i64 nn) ∧ w'.cell? ⟨tb, 2, none⟩ = some (.int .u32 (x : Int))) [(0, 0), (1, 0), (2, 0), (3, 1), (4, 0), (5, 0), (6, 1), (7, 0), (8, 0), (9, 2), (10, 0), (11, 0), (12, 2)] rfl (by kernel_rfl) ?hSD ?hTD
                case hSD => exact ⟨qd1, qd⟩
                refine wpT_pureD (v := ?_) (some 56) rfl rfl (by rfl) (fun w' => ?_) ?_
                rotate_left
                · (go_simp; try with_reducible rfl)
                try simp only [Act.put, List.setIfInBounds_toArray, List.set_cons_zero, List.set_cons_succ]
                refine wpT_pureD (v := ?_) (some 57) rfl rfl (by rfl) (fun w' => ?_) ?_
                rotate_left
                · (go_simp; try with_reducible rfl)
                try simp only [Act.put, List.setIfInBounds_toArray, List.set_cons_zero, List.set_cons_succ]
                refine wpT_pureD (v := ?_) (some 58) rfl rfl (by rfl) (fun w' => ?_) ?_
                rotate_left
                · (go_simp; try with_reducible rfl)
                try simp only [Act.put, List.setIfInBounds_toArray, List.set_cons_zero, List.set_cons_succ]
                refine wpT_readD (v := ?_) (some 59) rfl rfl (by rfl) (fun w' hw => ?_) ?_
                rotate_left
                · (obtain ⟨q0, q1⟩ := hw; go_simp; try with_reducible rfl)
                try simp only [Act.put, List.setIfInBounds_toArray, List.set_cons_zero, List.set_cons_succ]
                refine wpT_pureD (v := ?_) (some 60) rfl rfl (by rfl) (fun w' => ?_) ?_
                rotate_left
                · (go_simp; try with_reducible rfl)
                try simp only [Act.put, List.setIfInBounds_toArray, List.set_cons_zero, List.set_cons_succ]
                refine wpT_pureD (v := ?_) (some 61) rfl rfl (by rfl) (fun w' => ?_) ?_
                rotate_left
                · (go_simp; try with_reducible rfl)
                try simp only [Act.put, List.setIfInBounds_toArray, List.set_cons_zero, List.set_cons_succ]
                refine wpT_readD (v := ?_) (some 62) rfl rfl (by rfl) (fun w' hw => ?_) ?_
                rotate_left
                · (obtain ⟨q0, q1⟩ := hw; go_simp; try with_reducible rfl)
                try simp only [Act.put, List.setIfInBounds_toArray, List.set_cons_zero, List.set_cons_succ]
                refine wpT_pureD (v := ?_) (some 63) rfl rfl (by rfl) (fun w' => ?_) ?_
                rotate_left
                · (go_simp; try with_reducible rfl)
                try simp only [Act.put, List.setIfInBounds_toArray, List.set_cons_zero, List.set_cons_succ]
                refine wpT_pureD (v := ?_) (some 64) rfl rfl (by rfl) (fun w' => ?_) ?_
                rotate_left
                · (go_simp; try with_reducible rfl)
                try simp only [Act.put, List.setIfInBounds_toArray, List.set_cons_zero, List.set_cons_succ]
                refine wpT_eff rfl (by rfl) (fun K hK => ?_)
                go_wp2_with fail
                refine hK _ _ ⟨by go_simp, by go_simp⟩ ?_
                clear hK K
                try simp only [Act.put, List.setIfInBounds_toArray, List.set_cons_zero, List.set_cons_succ]
                refine wpT_pureD (v := ?_) (some 65) rfl rfl (by rfl) (fun w' => ?_) ?_
                rotate_left
                · (go_simp; try with_reducible rfl)
                try simp only [Act.put, List.setIfInBounds_toArray, List.set_cons_zero, List.set_cons_succ]
                refine wpT_pureD (v := ?_) (some 66) rfl rfl (by rfl) (fun w' => ?_) ?_
                rotate_left
                · (go_simp; try with_reducible rfl)
                try simp only [Act.put, List.setIfInBounds_toArray, List.set_cons_zero, List.set_cons_succ]
                refine wpT_eff rfl (by rfl) (fun K hK => ?_)
                go_wp2_with fail
                refine hK _ _ ⟨by go_simp, by go_simp⟩ ?_
                clear hK K
                try simp only [Act.put, List.setIfInBounds_toArray, List.set_cons_zero, List.set_cons_succ]
                refine wpT_end ?_
                go_wp2_with fail
                go_meet
                have hmx : max nn (-1) = (-1) := by omega
                have g := (HR1.out.set32 (-1)).set33 x
                refine ⟨b, { S with fu := max nn (-1), tn := x }, rfl, rfl, ⟨HS.out.f, HX.out, by show max nn (-1) < _; have := HNn.out; omega⟩, ?_, ?_, HN.out, ?_⟩
                · refine HF1.out.keep (E := [rb]) ?_ (by simp; exact HNe.out.2.2.1)
                  first | exact (((Chg.refl _ _).setCell (Or.inl (by simp)) _).setCell (Or.inl (by simp)) _).drew | exact ((((Chg.refl _ _).drew).setCell (Or.inl (by simp)) _).setCell (Or.inl (by simp)) _)
                · rw [hmx]; exact g.keep (E := []) (by first | exact (Chg.refl _ _).drew | exact Chg.refl _ _) (by simp)
                · refine chg_below (E := [rb]) HB1.out ?_ (by simp; exact HN.out.2.1) HB1.out.size
                  first | exact (((Chg.refl _ _).setCell (Or.inl (by simp)) _).setCell (Or.inl (by simp)) _).drew | exact ((((Chg.refl _ _).drew).setCell (Or.inl (by simp)) _).setCell (Or.inl (by simp)) _)
              · skip
                have e1 : (nn ≤ -1) = False := by simp; omega
                have e2 : (nn < -1) = False := by simp; omega
                have e3 : (-1 ≤ nn) = True := by simp; omega
                have e4 : (-1 < nn) = True := by simp; omega
                go_wp2_with fail
                refine wp_region_C (fun w' => w'.cell? ⟨tb, 1, none⟩ = some (.int .i64 nn) ∧ w'.cell? ⟨tb, 2, none⟩ = some (.int .u32 (x : Int))) [(0, 0), (1, 0), (2, 0), (3, 1), (4, 0), (5, 0), (6, 1), (7, 0), (8, 0), (9, 2), (10, 0), (11, 0), (12, 2)] rfl (by kernel_rfl) ?hSE ?hTE
                case hSE => exact ⟨qd1, qd⟩
                refine wpT_pureD (v := ?_) (some 56) rfl rfl (by rfl) (fun w' => ?_) ?_
                rotate_left
                · (go_simp; try with_reducible rfl)
                try simp only [Act.put, List.setIfInBounds_toArray, List.set_cons_zero, List.set_cons_succ]
                refine wpT_pureD (v := ?_) (some 57) rfl rfl (by rfl) (fun w' => ?_) ?_
                rotate_left
                · (go_simp; try with_reducible rfl)
                try simp only [Act.put, List.setIfInBounds_toArray, List.set_cons_zero, List.set_cons_succ]
                refine wpT_pureD (v := ?_) (some 58) rfl rfl (by rfl) (fun w' => ?_) ?_
                rotate_left
                · (go_simp; try with_reducible rfl)
                try simp only [Act.put, List.setIfInBounds_toArray, List.set_cons_zero, List.set_cons_succ]
                refine wpT_readD (v := ?_) (some 59) rfl rfl (by rfl) (fun w' hw => ?_) ?_
                rotate_left
                · (obtain ⟨q0, q1⟩ := hw; go_simp; try with_reducible rfl)
                try simp only [Act.put, List.setIfInBounds_toArray, List.set_cons_zero, List.set_cons_succ]
                refine wpT_pureD (v := ?_) (some 60) rfl rfl (by rfl) (fun w' => ?_) ?_
                rotate_left
                · (go_simp; try with_reducible rfl)
                try simp only [Act.put, List.setIfInBounds_toArray, List.set_cons_zero, List.set_cons_succ]
                refine wpT_pureD (v := ?_) (some 61) rfl rfl (by rfl) (fun w' => ?_) ?_
                rotate_left
                · (go_simp; try with_reducible rfl)
                try simp only [Act.put, List.setIfInBounds_toArray, List.set_cons_zero, List.set_cons_succ]
                refine wpT_readD (v := ?_) (some 62) rfl rfl (by rfl) (fun w' hw => ?_) ?_
                rotate_left
                · (obtain ⟨q0, q1⟩ := hw; go_simp; try with_reducible rfl)
                try simp only [Act.put, List.setIfInBounds_toArray, List.set_cons_zero, List.set_cons_succ]
                refine wpT_pureD (v := ?_) (some 63) rfl rfl (by rfl) (fun w' => ?_) ?_
                rotate_left
                · (go_simp; try with_reducible rfl)
                try simp only [Act.put, List.setIfInBounds_toArray, List.set_cons_zero, List.set_cons_succ]
                refine wpT_pureD (v := ?_) (some 64) rfl rfl (by rfl) (fun w' => ?_) ?_
                rotate_left
                · (go_simp; try with_reducible rfl)
                try simp only [Act.put, List.setIfInBounds_toArray, List.set_cons_zero, List.set_cons_succ]
                refine wpT_eff rfl (by rfl) (fun K hK => ?_)
                go_wp2_with fail
                refine hK _ _ ⟨by go_simp, by go_simp⟩ ?_
                clear hK K
                try simp only [Act.put, List.setIfInBounds_toArray, List.set_cons_zero, List.set_cons_succ]
                refine wpT_pureD (v := ?_) (some 65) rfl rfl (by rfl) (fun w' => ?_) ?_
                rotate_left
                · (go_simp; try with_reducible rfl)
                try simp only [Act.put, List.setIfInBounds_toArray, List.set_cons_zero, List.set_cons_succ]
                refine wpT_pureD (v := ?_) (some 66) rfl rfl (by rfl) (fun w' => ?_) ?_
                rotate_left
                · (go_simp; try with_reducible rfl)
                try simp only [Act.put, List.setIfInBounds_toArray, List.set_cons_zero, List.set_cons_succ]
                refine wpT_eff rfl (by rfl) (fun K hK => ?_)
                go_wp2_with fail
                refine hK _ _ ⟨by go_simp, by go_simp⟩ ?_
                clear hK K
                try simp only [Act.put, List.setIfInBounds_toArray, List.set_cons_zero, List.set_cons_succ]
                refine wpT_end ?_
                go_wp2_with fail
                go_meet
                have hmx : max nn (-1) = nn := by omega
                have g := (HR1.out.set32 nn).set33 x
                refine ⟨b, { S with fu := max nn (-1), tn := x }, rfl, rfl, ⟨HS.out.f, HX.out, by show max nn (-1) < _; have := HNn.out; omega⟩, ?_, ?_, HN.out, ?_⟩
                · refine HF1.out.keep (E := [rb]) ?_ (by simp; exact HNe.out.2.2.1)
                  first | exact (((Chg.refl _ _).setCell (Or.inl (by simp)) _).setCell (Or.inl (by simp)) _).drew | exact ((((Chg.refl _ _).drew).setCell (Or.inl (by simp)) _).setCell (Or.inl (by simp)) _)
                · rw [hmx]; exact g.keep (E := []) (by first | exact (Chg.refl _ _).drew | exact Chg.refl _ _) (by simp)
                · refine chg_below (E := [rb]) HB1.out ?_ (by simp; exact HN.out.2.1) HB1.out.size
                  first | exact (((Chg.refl _ _).setCell (Or.inl (by simp)) _).setCell (Or.inl (by simp)) _).drew | exact ((((Chg.refl _ _).drew).setCell (Or.inl (by simp)) _).setCell (Or.inl (by simp)) _)
          · by_cases k2 : kd = 2
            · subst k2
              clear k0 k1
              go_wp2_with fail
              refine (again2 HF.out).mono ?_
              rintro e wf ⟨rfl, hF1, hC1⟩
              have HF1 := Lib.hid hF1
              have HR1 := Lib.hid (HR.out.keep hC1 (by simp))
              have HB1 : Hid (Below w.heap.size w wf) := Lib.hid (chg_below HB.out hC1 (by simp) HB.out.size)
              have HN1 : Hid (w.heap.size ≤ W3.heap.size ∧ w.heap.size ≤ rb ∧ W3.heap.size ≠ rb) := Lib.hid ⟨HB.out.size, HN.out.2.1, by have := HR.out.lt; omega⟩
              have r4 := HR1.out.c32
              have r5 := HR1.out.c33
              have r6 := HR1.out.c34
              have f2 := HR1.out.fr 32
              have f3 := HR1.out.fr 33
              have f4 := HR1.out.fr 34
              clear hF1 hC1 qq qq1 q0
              go_wp2_with fail
              go_meet
              have g := ((HR1.out.set32 (-1)).set33 0).set34 false
              refine ⟨W3.heap.size, S.again, rfl, rfl, again_ok HS.out, ?_, g, HN1.out, ?_⟩
              · refine HF1.out.keep (E := [rb]) ?_ (by simp; exact HN1.out.2.2)
                exact (((Chg.refl _ _).setCell (Or.inl (by simp)) _).setCell (Or.inl (by simp)) _).setCell (Or.inl (by simp)) _
              · refine chg_below (E := [rb]) HB1.out ?_ (by simp; exact HN.out.2.1) HB1.out.size
                exact (((Chg.refl _ _).setCell (Or.inl (by simp)) _).setCell (Or.inl (by simp)) _).setCell (Or.inl (by simp)) _
            · by_cases k3 : kd = 3
              · subst k3
                clear k0 k1 k2
                obtain ⟨i, hi⟩ : ∃ i : Nat, nn % 32 = (i : Int) := ⟨(nn % 32).toNat, by omega⟩
                have hi32 : i < 32 := by omega
                have ai : bits .and .i64 nn 31 = (i : Int) := by rw [← hi]; exact and_i64 nn 31 5 (by decide) (by decide)
                clear hi
                have qd : W3.drew.cell? ⟨tb, 2, none⟩ = some (.int .u32 (x : Int)) := qq
                have HA1 := Lib.hid (write_in (HF.out.keep (E := []) (Chg.refl _ _).drew (by simp)) HS.out i x hi32 HX.out)
                go_wp2_with fail
                refine wp_region_C (fun w' => w'.cell? ⟨tb, 2, none⟩ = some (.int .u32 (x : Int))) [(0, 0), (1, 0), (2, 0), (3, 1), (6, 0), (7, 0), (8, 0), (9, 1), (4, 2), (5, 0), (10, 2), (11, 0), (12, 0)] rfl (by kernel_rfl) ?hSB ?hTB
                case hSB => exact qd
                refine wpT_pureD (v := ?_) (some 85) rfl rfl (by rfl) (fun w' => ?_) ?_
                rotate_left
                · (go_simp; try with_reducible rfl)
                try simp only [Act.put, List.setIfInBounds_toArray, List.set_cons_zero, List.set_cons_succ]
                refine wpT_pureD (v := ?_) (some 86) rfl rfl (by rfl) (fun w' => ?_) ?_
                rotate_left
                · (go_simp; try with_reducible rfl)
                try simp only [Act.put, List.setIfInBounds_toArray, List.set_cons_zero, List.set_cons_succ]
                refine wpT_pureD (v := ?_) (some 87) rfl rfl (by rfl) (fun w' => ?_) ?_
                rotate_left
                · (go_simp; try with_reducible rfl)
                try simp only [Act.put, List.setIfInBounds_toArray, List.set_cons_zero, List.set_cons_succ]
                refine wpT_readD (v := ?_) (some 88) rfl rfl (by rfl) (fun w' hw => ?_) ?_
                rotate_left
                · (obtain q0 := hw; go_simp; try with_reducible rfl)
                try simp only [Act.put, List.setIfInBounds_toArray, List.set_cons_zero, List.set_cons_succ]
                refine wpT_pureD (v := ?_) (some 91) rfl rfl (by rfl) (fun w' => ?_) ?_
                rotate_left
                · (go_simp; try with_reducible rfl)
                try simp only [Act.put, List.setIfInBounds_toArray, List.set_cons_zero, List.set_cons_succ]
                refine wpT_pureD (v := ?_) (some 92) rfl rfl (by rfl) (fun w' => ?_) ?_
                rotate_left
                · (go_simp; try with_reducible rfl)
                try simp only [Act.put, List.setIfInBounds_toArray, List.set_cons_zero, List.set_cons_succ]
                refine wpT_pureD (v := ?_) (some 93) rfl rfl (by rfl) (fun w' => ?_) ?_
                rotate_left
                · (go_simp; try with_reducible rfl)
                try simp only [Act.put, List.setIfInBounds_toArray, List.set_cons_zero, List.set_cons_succ]
                refine wpT_readD (v := ?_) (some 94) rfl rfl (by rfl) (fun w' hw => ?_) ?_
                rotate_left
                · (obtain q0 := hw; go_simp; try with_reducible rfl)
                try simp only [Act.put, List.setIfInBounds_toArray, List.set_cons_zero, List.set_cons_succ]
                refine wpT_eff rfl (by rfl) (fun K hK => ?_)
                go_wp2_with fail
                refine HA1.out.mono ?_
                rintro e wa ⟨rfl, hF, hc⟩
                have HFwa := Lib.hid hF
                have HCwa := Lib.hid hc
                have qwa : wa.cell? ⟨tb, 2, none⟩ = some (.int .u32 (x : Int)) := (World.cell?_of_block (a := ⟨tb, 2, none⟩) (hc.block tb (World.block_lt_of_cell? _ _ qd) (by simp; first | exact HNe.out.1 | exact HNe.out.2.1))).trans qd
                clear hF hc
                go_wp2_with fail
                refine hK _ _ qwa ?_
                clear hK K
                try simp only [Act.put, List.setIfInBounds_toArray, List.set_cons_zero, List.set_cons_succ]
                refine wpT_pureD (v := ?_) (some 90) rfl rfl (by rfl) (fun w' => ?_) ?_
                rotate_left
                · (go_simp; try with_reducible rfl)
                try simp only [Act.put, List.setIfInBounds_toArray, List.set_cons_zero, List.set_cons_succ]
                refine wpT_eff rfl (by rfl) (fun K hK => ?_)
                have HA2 := Lib.hid (rwrite_in (HR.out.keep (Chg.trans (Chg.mono (Chg.refl [] _).drew (by simp)) HCwa.out) (by simp; exact fun h => HNe.out.2.2.1 h.symm)) HS.out i x hi32 HX.out)
                go_wp2_with fail
                refine HA2.out.mono ?_
                rintro e wb ⟨rfl, hF, hc⟩
                have HFwb := Lib.hid hF
                have HCwb := Lib.hid hc
                have qwb : wb.cell? ⟨tb, 2, none⟩ = some (.int .u32 (x : Int)) := (World.cell?_of_block (a := ⟨tb, 2, none⟩) (hc.block tb (World.block_lt_of_cell? _ _ qwa) (by simp; first | exact HNe.out.1 | exact HNe.out.2.1))).trans qwa
                clear hF hc
                go_wp2_with fail
                refine hK _ _ qwb ?_
                clear hK K
                try simp only [Act.put, List.setIfInBounds_toArray, List.set_cons_zero, List.set_cons_succ]
                refine wpT_pureD (v := ?_) (some 96) rfl rfl (by rfl) (fun w' => ?_) ?_
                rotate_left
                · (go_simp; try with_reducible rfl)
                try simp only [Act.put, List.setIfInBounds_toArray, List.set_cons_zero, List.set_cons_succ]
                refine wpT_pureD (v := ?_) (some 7) rfl rfl (by rfl) (fun w' => ?_) ?_
                rotate_left
                · (go_simp; try with_reducible rfl)
                try simp only [Act.put, List.setIfInBounds_toArray, List.set_cons_zero, List.set_cons_succ]
                refine wpT_end ?_
                go_wp2_with fail
                go_meet
                refine ⟨b, S.write i x, rfl, by unfold errW; cases S.okB <;> simp, HS.out.write i x, HFwa.out.keep HCwb.out (by simp; exact HNe.out.2.2.1), HFwb.out, HN.out, ?_⟩
                exact chg_below (chg_below HB.out.drew HCwa.out (by simp; exact HN.out.1) (by have := HB.out.size; simpa using this)) HCwb.out (by simp; exact HN.out.2.1) (by have := HB.out.size; have := HCwa.out.size; simp at this; omega)
              · have e0 : (kd == 0) = false := by simpa using k0
                have e1 : (kd == 1) = false := by simpa using k1
                have e2 : (kd == 2) = false := by simpa using k2
                have e3 : (kd == 3) = false := by simpa using k3
                obtain ⟨j, hj⟩ : ∃ j : Nat, nn % 2 = (j : Int) := ⟨(nn % 2).toNat, by omega⟩
                have hj2 : j < 2 := by omega
                have aj : bits .and .i64 nn 1 = (j : Int) := by rw [← hj]; exact and_i64 nn 1 1 (by decide) (by decide)
                have HA1 := Lib.hid (erase_in HF.out HS.out j hj2)
                clear hj k0 k1 k2 k3
                go_wp2_with fail
                refine HA1.out.mono ?_
                rintro e wa ⟨rfl, hF, hc⟩
                have HFwa := Lib.hid hF
                have HCwa := Lib.hid hc
                have HA2 := Lib.hid (rerase_in (HR.out.keep hc (by simp; exact fun h => HNe.out.2.2.1 h.symm)) HS.out j hj2)
                clear hF hc
                go_wp2_with fail
                refine HA2.out.mono ?_
                rintro e wb ⟨rfl, hF, hc⟩
                have HFwb := Lib.hid hF
                have HCwb := Lib.hid hc
                clear hF hc
                go_wp2_with fail
                go_meet
                refine ⟨b, S.erase j, rfl, by unfold errW; cases S.okB <;> simp, HS.out.erase j, HFwa.out.keep HCwb.out (by simp; exact HNe.out.2.2.1), HFwb.out, HN.out, ?_⟩
                exact chg_below (chg_below HB.out HCwa.out (by simp; exact HN.out.1) HB.out.size) HCwb.out (by simp; exact HN.out.2.1) (Nat.le_trans HB.out.size HCwa.out.size)
      case rest =>
        obtain ⟨b', S', rfl, rfl, hS', hF', hR', hN', hB'⟩ := hcut
        have HS' := Lib.hid hS'
        have HF' := Lib.hid hF'
        have HR' := Lib.hid hR'
        have HN' := Lib.hid hN'
        have HB' := Lib.hid hB'
        have hwr := wrap1 k (by have := HL.out; omega)
        clear hS' hF' hR' hN' hB' HF HR HB q0 qq1 qq
        go_wp2_with fail
        refine (same_in HF'.out HR'.out HS'.out).mono ?_
        rintro e w9 ⟨rfl, hC9⟩
        have HC9 := Lib.hid hC9
        clear hC9
        go_wp2
        exact ⟨⟨k + 1, b', S', Nat.succ_le_of_lt hlt, by first | rfl | rw [hwr], rfl, HS'.out, HF'.out.keep HC9.out (by simp), HR'.out.keep HC9.out (by simp), HN'.out, chg_below HB'.out HC9.out (by simp) HB'.out.size⟩, by first | (rw [hwr]; simp only [intOf, Int.toNat_natCast]; exact Nat.sub_lt_sub_left hlt (Nat.lt_succ_self k)) | (simp only [intOf, Int.toNat_natCast]; exact Nat.sub_lt_sub_left hlt (Nat.lt_succ_self k))⟩
    · obtain rfl : k = len := by omega
      go_wp2
      go_ret
      exact ⟨rfl, HB0.out⟩
end Go.Proofs.L
