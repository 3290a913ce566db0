/- Proved here: lemmas and contracts (RefWrite) for the laws of this seat, for all values of the stated types; no further condition. -/
import Derived.Test.YtfalldoimbedbaaBits
open Go Go.RowKit Go.Lib
namespace Go.Proofs.L
theorem and_one (x : Nat) (hx : x < 4294967296) : bits .and .u32 (x : Int) 1 = ((x % 2 : Nat) : Int) := by
  show IntKind.u32.wrap ((BitVec.ofInt 32 (x : Int) &&& BitVec.ofInt 32 1).toNat : Int) = _
  have h1 : (BitVec.ofInt 32 (x : Int)).toNat = x := by rw [BitVec.ofInt_natCast, BitVec.toNat_ofNat]; exact Nat.mod_eq_of_lt hx
  have h2 : (BitVec.ofInt 32 1).toNat = 1 := rfl
  rw [BitVec.toNat_and, h1, h2, Nat.and_one_is_mod]
  simp [IntKind.wrap, IntKind.bits, IntKind.signed]; omega
theorem shr_one (x k : Nat) (hx : x < 4294967296) : bits .and .u32 ((x : Int) / 2 ^ k) 1 = ((x / 2 ^ k % 2 : Nat) : Int) := by
  have e : ((x : Int) / 2 ^ k) = ((x / 2 ^ k : Nat) : Int) := by rw [Int.natCast_ediv, Int.natCast_pow]; rfl
  rw [e, and_one _ (Nat.lt_of_le_of_lt (Nat.div_le_self _ _) hx)]
theorem up_up (f : Nat → Nat) (i v u : Nat) : up (up f i v) i u = up f i u := by funext j; unfold up; split <;> rfl
set_option maxHeartbeats 1600000 in
theorem rwrite_in {w b S} (h : Fl w b S) (hS : S.Ok) (i x : Nat) (hi : i < 32) (hx : x < 4294967296) : Calls Try.prog 20 #[.pointer (some ⟨b, 0, none⟩), .int .i64 i, .int .u32 (x : Int)] w fun e w' => e = .returned (.bool S.okB) ∧ Fl w' b (S.write i x) ∧ Chg [b] w w' := by
  have HBt := Lib.hid (rbits_in h hS)
  have HE := Lib.hid (write_bits S hS i x)
  have hB := hS.bits
  obtain ⟨B, hBe⟩ : ∃ B, B = S.bits := ⟨_, rfl⟩
  rw [← hBe] at HBt HE hB
  have HBl := Lib.hid hB
  have HS := Lib.hid hS
  have HX := Lib.hid hx
  have hI : (i : Int) < 32 := by omega
  clear h hS hB hBe hx
  go_enter Try.func20, Try.ntmps20
  go_wp2_with fail
  refine HBt.out.mono ?_
  rintro e w1 ⟨rfl, h1, hc1⟩
  have H1 := Lib.hid h1
  have HC1 := Lib.hid hc1
  clear h1 hc1
  go_wp2_with fail
  go_loopw [8] (fun o wr => ∃ k : Nat, k ≤ 32 ∧ o = .int .i64 k ∧ Fl wr b { S.step with f := up S.f i (uw (S.f i) (x ||| (4294967295 - B)) k) } ∧ Chg [b] w wr) (fun o _ => 32 - (intOf o).toNat)
  case atStart =>
    refine ⟨0, by omega, rfl, ?_, HC1.out⟩
    rw [uw_zero _ _ (HS.out.f i)]
    have : up S.f i (S.f i) = S.step.f := by rw [S.step_f]; funext j; unfold up; split <;> simp_all
    rw [this]; exact H1.out
  case round =>
    obtain ⟨k, hk, rfl, hF, hC⟩ := hrel
    obtain ⟨wo, rfl⟩ : ∃ wo : World, wo = wr := ⟨_, rfl⟩
    have HF := Lib.hid hF
    have HCk := Lib.hid hC
    by_cases hk2 : k < 32
    · have dk : decide ((k : Int) < 32) = true := by simp; omega
      have ci := hF.ci i hi
      have fi := hF.fr i
      have hval : ({ S.step with f := up S.f i (uw (S.f i) (x ||| (4294967295 - B)) k) } : FS).f i = uw (S.f i) (x ||| (4294967295 - B)) k := by unfold up; simp
      rw [hval] at ci
      have hul := uw_lt (S.f i) (x ||| (4294967295 - B)) k (HS.out.f i)
      have HNo := Lib.hid (uw_step_no (S.f i) x B k hk2 HBl.out)
      have HYes := Lib.hid (uw_step_yes (S.f i) x B k hk2 (HS.out.f i) HBl.out)
      have hu1l := uw_lt (S.f i) (x ||| (4294967295 - B)) (k + 1) (HS.out.f i)
      obtain ⟨u, hu⟩ : ∃ u, u = uw (S.f i) (x ||| (4294967295 - B)) k := ⟨_, rfl⟩
      obtain ⟨u1, hu1⟩ : ∃ u1, u1 = uw (S.f i) (x ||| (4294967295 - B)) (k + 1) := ⟨_, rfl⟩
      rw [← hu] at ci hul HNo HYes
      rw [← hu1] at HNo HYes hu1l
      have HU1 := Lib.hid hu1
      have HU := Lib.hid hu
      have sB := shr_one B k HBl.out
      have sx := shr_one x k HX.out
      have su := shr_one u k hul
      clear hF hC hval hu hu1
      obtain ⟨p, hp⟩ : ∃ p : Nat, p = 2 ^ k := ⟨_, rfl⟩
      have hpl : p < 4294967296 := by rw [hp]; have := Nat.pow_lt_pow_right (a := 2) (by decide) hk2; simpa using this
      have hpI : ((2 : Int) ^ k) = (p : Int) := by rw [hp, Int.natCast_pow]; rfl
      have sp : IntKind.u32.wrap (2 ^ k) = (p : Int) := by rw [hpI, u32w]; omega
      have sp1 : IntKind.u32.wrap (1 * 2 ^ k) = (p : Int) := by rw [hpI, u32w]; omega
      rw [← hp] at HNo HYes
      have hwr : wrap64 ((k : Int) + 1) = ((k + 1 : Nat) : Int) := wrap1 k (Nat.lt_of_lt_of_le hk2 (by decide))
      have HM : Hid (32 - (k + 1) < 32 - k) := Lib.hid (Nat.sub_lt_sub_left hk2 (Nat.lt_succ_self k))
      have HK1 : Hid (k + 1 ≤ 32) := Lib.hid hk2
      have b2 : B / p % 2 = 0 ∨ B / p % 2 = 1 := Nat.mod_two_eq_zero_or_one _
      have x2 : x / p % 2 = 0 ∨ x / p % 2 = 1 := Nat.mod_two_eq_zero_or_one _
      have u2 : u / p % 2 = 0 ∨ u / p % 2 = 1 := Nat.mod_two_eq_zero_or_one _
      rw [← hp] at sB sx su
      clear hp hpI
      by_cases hc : B / p % 2 = 1 ∧ x / p % 2 = 0 ∧ u / p % 2 = 1
      · have hy := HYes.out hc
        have ss : IntKind.u32.wrap ((u : Int) - (p : Int)) = (u1 : Int) := by rw [u32w]; omega
        rw [hc.1] at sB
        rw [hc.2.1] at sx
        rw [hc.2.2] at su
        clear hc hy HYes HNo b2 x2 u2 hul hu1l hpl
        go_wp2_with fail
        refine wp_region_C (fun w' => w'.cell? ⟨b, i, none⟩ = some (.int .u32 (u : Int))) [(0, 0), (1, 0), (2, 0), (3, 0), (4, 0), (5, 1), (6, 0), (7, 0), (8, 0), (9, 0), (10, 0), (11, 0), (12, 3)] rfl (by kernel_rfl) ?hS6 ?hT6
        case hS6 => exact ci
        refine wpT_pureD (v := ?_) (some 39) rfl rfl (by rfl) (fun w' => ?_) ?_
        rotate_left
        · (go_simp; try with_reducible rfl)
        try simp only [Act.put, List.setIfInBounds_toArray, List.set_cons_zero, List.set_cons_succ]
        refine wpT_pureD (v := ?_) (some 40) rfl rfl (by rfl) (fun w' => ?_) ?_
        rotate_left
        · (go_simp; try with_reducible rfl)
        try simp only [Act.put, List.setIfInBounds_toArray, List.set_cons_zero, List.set_cons_succ]
        refine wpT_pureD (v := ?_) (some 41) rfl rfl (by rfl) (fun w' => ?_) ?_
        rotate_left
        · (go_simp; try with_reducible rfl)
        try simp only [Act.put, List.setIfInBounds_toArray, List.set_cons_zero, List.set_cons_succ]
        refine wpT_pureD (v := ?_) (some 42) rfl rfl (by rfl) (fun w' => ?_) ?_
        rotate_left
        · (go_simp; try with_reducible rfl)
        try simp only [Act.put, List.setIfInBounds_toArray, List.set_cons_zero, List.set_cons_succ]
        refine wpT_pureD (v := ?_) (some 43) rfl rfl (by rfl) (fun w' => ?_) ?_
        rotate_left
        · (go_simp; try with_reducible rfl)
        try simp only [Act.put, List.setIfInBounds_toArray, List.set_cons_zero, List.set_cons_succ]
        refine wpT_readD (v := ?_) (some 44) rfl rfl (by rfl) (fun w' hw => ?_) ?_
        rotate_left
        · (obtain q0 := hw; go_simp; try with_reducible rfl)
        try simp only [Act.put, List.setIfInBounds_toArray, List.set_cons_zero, List.set_cons_succ]
        refine wpT_pureD (v := ?_) (some 45) rfl rfl (by rfl) (fun w' => ?_) ?_
        rotate_left
        · (go_simp; try with_reducible rfl)
        try simp only [Act.put, List.setIfInBounds_toArray, List.set_cons_zero, List.set_cons_succ]
        refine wpT_pureD (v := ?_) (some 46) rfl rfl (by rfl) (fun w' => ?_) ?_
        rotate_left
        · (go_simp; try with_reducible rfl)
        try simp only [Act.put, List.setIfInBounds_toArray, List.set_cons_zero, List.set_cons_succ]
        refine wpT_pureD (v := ?_) (some 47) rfl rfl (by rfl) (fun w' => ?_) ?_
        rotate_left
        · (go_simp; try with_reducible rfl)
        try simp only [Act.put, List.setIfInBounds_toArray, List.set_cons_zero, List.set_cons_succ]
        refine wpT_pureD (v := ?_) (some 48) rfl rfl (by rfl) (fun w' => ?_) ?_
        rotate_left
        · (go_simp; try with_reducible rfl)
        try simp only [Act.put, List.setIfInBounds_toArray, List.set_cons_zero, List.set_cons_succ]
        refine wpT_pureD (v := ?_) (some 49) rfl rfl (by rfl) (fun w' => ?_) ?_
        rotate_left
        · (go_simp; try with_reducible rfl)
        try simp only [Act.put, List.setIfInBounds_toArray, List.set_cons_zero, List.set_cons_succ]
        refine wpT_pureD (v := ?_) (some 50) rfl rfl (by rfl) (fun w' => ?_) ?_
        rotate_left
        · (go_simp; try with_reducible rfl)
        try simp only [Act.put, List.setIfInBounds_toArray, List.set_cons_zero, List.set_cons_succ]
        refine wpT_brk rfl (by rfl) (fun K hK => ?_)
        go_wp2_with fail
        refine wpT_end ?_
        go_wp2
        have g := HF.out.set i u1 hi
        rw [show ({ S.step with f := up S.f i (uw (S.f i) (x ||| (4294967295 - B)) k) } : FS).f = up S.f i (uw (S.f i) (x ||| (4294967295 - B)) k) from rfl, up_up, HU1.out] at g
        refine ⟨⟨k + 1, HK1.out, by first | rfl | rw [hwr], by rw [← HU1.out] at g ⊢; exact g.keep (E := []) (Chg.refl _ _).drew (by simp), by first | exact (HCk.out.setCell (Or.inl (by simp)) _).drew | exact HCk.out.drew.setCell (Or.inl (by simp)) _⟩, ?_⟩
        first | exact HM.out | (simp only [intOf]; have := HM.out; omega)
      · have hn := HNo.out hc
        have HEq := Lib.hid hn
        clear HYes HNo hn
        rcases b2 with b2 | b2
        · rw [b2] at sB
          clear hc x2 u2 b2
          go_wp2
          exact ⟨⟨k + 1, HK1.out, by first | rfl | rw [hwr], by rw [← HU1.out, HEq.out, HU.out]; exact HF.out, HCk.out⟩, by first | exact HM.out | (simp only [intOf]; have := HM.out; omega)⟩
        · rw [b2] at sB
          rcases x2 with x2 | x2
          · rw [x2] at sx
            have u0 : u / p % 2 = 0 := by omega
            rw [u0] at su
            clear hc x2 u2 b2 u0
            go_wp2
            exact ⟨⟨k + 1, HK1.out, by first | rfl | rw [hwr], by rw [← HU1.out, HEq.out, HU.out]; exact HF.out, HCk.out⟩, by first | exact HM.out | (simp only [intOf]; have := HM.out; omega)⟩
          · rw [x2] at sx
            clear hc x2 u2 b2
            go_wp2
            exact ⟨⟨k + 1, HK1.out, by first | rfl | rw [hwr], by rw [← HU1.out, HEq.out, HU.out]; exact HF.out, HCk.out⟩, by first | exact HM.out | (simp only [intOf]; have := HM.out; omega)⟩
    · obtain rfl : k = 32 := by omega
      have c4 : wo.cell? ⟨b, 34, none⟩ = some (.bool S.step.de) := hF.c34
      rw [step_de] at c4
      have e : uw (S.f i) (x ||| (4294967295 - B)) 32 = S.f i &&& (x ||| (4294967295 - B)) := uw_last _ _
      have HEe := Lib.hid e
      clear hF hC e
      go_wp2
      go_ret
      exact ⟨ret_b (by simp), by rw [HE.out, ← HEe.out]; exact HF.out, HCk.out⟩
end Go.Proofs.L
