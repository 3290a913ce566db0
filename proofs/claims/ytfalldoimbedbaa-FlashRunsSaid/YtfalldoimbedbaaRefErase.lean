/- Proved here: lemmas and contracts (RefErase) for the laws of this seat, for all values of the stated types; no further condition. -/
import Derived.Test.YtfalldoimbedbaaRefRead
open Go Go.RowKit Go.Lib
namespace Go.Proofs.L
theorem step_de (S : FS) : S.step.de = !S.okB := by
  unfold FS.step FS.okB
  cases hd : S.de with
  | true => simp [hd]
  | false =>
    by_cases h0 : S.fu = 0
    · simp [h0]
    · by_cases h1 : 0 < S.fu
      · simp [h0, h1, hd]
      · simp [h0, h1, hd]
theorem erase_bits (S : FS) (s : Nat) : S.erase s = { S.step with f := eraseW S.f (16 * s) S.bits 16 } := by
  unfold FS.erase FS.bits
  split
  · rfl
  · split
    · rfl
    · have : eraseW S.f (16 * s) 0 16 = S.f := by funext j; unfold eraseW; split <;> simp
      rw [this, ← S.step_f]
theorem write_bits (S : FS) (hS : S.Ok) (i x : Nat) : S.write i x = { S.step with f := up S.f i (S.f i &&& (x ||| (4294967295 - S.bits))) } := by
  unfold FS.write FS.bits
  split
  · simp
  · split
    · rfl
    · have h : S.f i &&& (x ||| (4294967295 - 0)) = S.f i := by
        apply Nat.eq_of_testBit_eq
        intro j
        rw [Nat.testBit_and, Nat.testBit_or, show (4294967295 : Nat) - 0 = 2 ^ 32 - 1 by rfl, Nat.testBit_two_pow_sub_one]
        by_cases hj : j < 32
        · simp [hj]
        · rw [Nat.testBit_lt_two_pow (Nat.lt_of_lt_of_le (hS.f i) (Nat.pow_le_pow_right (n := 2) (by decide) (show 32 ≤ j by omega)))]; simp
      have : up S.f i (S.f i) = S.f := by funext j; unfold up; split <;> simp_all
      rw [h, this, ← S.step_f]
theorem rerase_in {w b S} (h : Fl w b S) (hS : S.Ok) (s : Nat) (hs : s < 2) : Calls Try.prog 21 #[.pointer (some ⟨b, 0, none⟩), .int .i64 s] w fun e w' => e = .returned (.bool S.okB) ∧ Fl w' b (S.erase s) ∧ Chg [b] w w' := by
  have HBt := Lib.hid (rbits_in h hS)
  obtain ⟨z, hz⟩ : ∃ z, z = 16 * s := ⟨_, rfl⟩
  obtain ⟨ze, hze⟩ : ∃ ze, ze = z + 16 := ⟨_, rfl⟩
  have m1 : wrap64 (16 * (s : Int)) = (z : Int) := by rw [IntWalk.wrap64_in _ ⟨by omega, by omega⟩]; omega
  have m1' : IntKind.i64.wrap (16 * (s : Int)) = (z : Int) := by rw [i64w]; exact m1
  have m2 : wrap64 ((z : Int) + 16) = (ze : Int) := by rw [IntWalk.wrap64_in _ ⟨by omega, by omega⟩]; omega
  have HE := Lib.hid (erase_bits S s)
  have hB := hS.bits
  obtain ⟨B, hBe⟩ : ∃ B, B = S.bits := ⟨_, rfl⟩
  rw [← hBe] at HBt HE hB
  rw [← hz] at HE
  have HBl := Lib.hid hB
  have HZ : Hid (ze = z + 16 ∧ ze ≤ 32) := Lib.hid (by omega)
  have HS := Lib.hid hS
  clear h hS hz hze hs hB hBe
  go_enter Try.func21, Try.ntmps21
  go_wp2_with fail
  refine HBt.out.mono ?_
  rintro e w1 ⟨rfl, h1, hc1⟩
  have H1 := Lib.hid h1
  have HC1 := Lib.hid hc1
  clear h1 hc1
  go_wp2_with fail
  go_loopw [6] (fun i wr => ∃ k : Nat, k ≤ 16 ∧ i = .int .i64 ((z + k : Nat) : Int) ∧ Fl wr b { S.step with f := eraseW S.f z B k } ∧ Chg [b] w wr) (fun i _ => ze - (intOf i).toNat)
  case atStart => exact ⟨0, by omega, rfl, by rw [eraseW_zero, ← S.step_f]; exact H1.out, HC1.out⟩
  case round =>
    obtain ⟨k, hk, rfl, hF, hC⟩ := hrel
    obtain ⟨wo, rfl⟩ : ∃ wo : World, wo = wr := ⟨_, rfl⟩
    have HF := Lib.hid hF
    have HCk := Lib.hid hC
    obtain ⟨q, hq⟩ : ∃ q, q = z + k := ⟨_, rfl⟩
    rw [← hq]
    by_cases hk2 : k < 16
    · have hqe : q < ze := by have := HZ.out; omega
      have dq : decide ((q : Int) < (ze : Int)) = true := by simp; omega
      have hqn : q < 32 := by have := HZ.out; omega
      have hqI : (q : Int) < 32 := by omega
      have cq := hF.ci q hqn
      have fq := hF.fr q
      have hval : ({ S.step with f := eraseW S.f z B k } : FS).f q = S.f q := by rw [hq]; exact eraseW_at _ _ _ _
      rw [hval] at cq
      have a1 := or32 (S.f q) B (HS.out.f q) HBl.out
      have hw1 : wrap64 ((q : Int) + 1) = ((q + 1 : Nat) : Int) := by rw [IntWalk.wrap64_in _ ⟨by omega, by omega⟩]; omega
      have HQ := Lib.hid hq
      have HQE := Lib.hid hqe
      clear hF hC hval hq hqe
      go_wp2_with fail
      refine wp_region_C (fun w' => w'.cell? ⟨b, q, none⟩ = some (.int .u32 (S.f q : Int))) [(0, 0), (1, 0), (2, 0), (3, 0), (4, 0), (5, 0), (6, 0), (7, 1), (8, 0), (9, 0), (10, 0), (11, 0), (12, 0), (13, 3)] rfl (by kernel_rfl) ?hS5 ?hT5
      case hS5 => exact cq
      refine wpT_pureD (v := ?_) (some 18) rfl rfl (by rfl) (fun w' => ?_) ?_
      rotate_left
      · (go_simp; try with_reducible rfl)
      try simp only [Act.put, List.setIfInBounds_toArray, List.set_cons_zero, List.set_cons_succ]
      refine wpT_pureD (v := ?_) (some 19) rfl rfl (by rfl) (fun w' => ?_) ?_
      rotate_left
      · (go_simp; try with_reducible rfl)
      try simp only [Act.put, List.setIfInBounds_toArray, List.set_cons_zero, List.set_cons_succ]
      refine wpT_pureD (v := ?_) (some 20) rfl rfl (by rfl) (fun w' => ?_) ?_
      rotate_left
      · (go_simp; try with_reducible rfl)
      try simp only [Act.put, List.setIfInBounds_toArray, List.set_cons_zero, List.set_cons_succ]
      refine wpT_pureD (v := ?_) (some 21) rfl rfl (by rfl) (fun w' => ?_) ?_
      rotate_left
      · (go_simp; try with_reducible rfl)
      try simp only [Act.put, List.setIfInBounds_toArray, List.set_cons_zero, List.set_cons_succ]
      refine wpT_pureD (v := ?_) (some 22) rfl rfl (by rfl) (fun w' => ?_) ?_
      rotate_left
      · (go_simp; try with_reducible rfl)
      try simp only [Act.put, List.setIfInBounds_toArray, List.set_cons_zero, List.set_cons_succ]
      refine wpT_pureD (v := ?_) (some 23) rfl rfl (by rfl) (fun w' => ?_) ?_
      rotate_left
      · (go_simp; try with_reducible rfl)
      try simp only [Act.put, List.setIfInBounds_toArray, List.set_cons_zero, List.set_cons_succ]
      refine wpT_pureD (v := ?_) (some 24) rfl rfl (by rfl) (fun w' => ?_) ?_
      rotate_left
      · (go_simp; try with_reducible rfl)
      try simp only [Act.put, List.setIfInBounds_toArray, List.set_cons_zero, List.set_cons_succ]
      refine wpT_readD (v := ?_) (some 25) rfl rfl (by rfl) (fun w' hw => ?_) ?_
      rotate_left
      · (obtain q0 := hw; go_simp; try with_reducible rfl)
      try simp only [Act.put, List.setIfInBounds_toArray, List.set_cons_zero, List.set_cons_succ]
      refine wpT_pureD (v := ?_) (some 26) rfl rfl (by rfl) (fun w' => ?_) ?_
      rotate_left
      · (go_simp; try with_reducible rfl)
      try simp only [Act.put, List.setIfInBounds_toArray, List.set_cons_zero, List.set_cons_succ]
      refine wpT_pureD (v := ?_) (some 27) rfl rfl (by rfl) (fun w' => ?_) ?_
      rotate_left
      · (go_simp; try with_reducible rfl)
      try simp only [Act.put, List.setIfInBounds_toArray, List.set_cons_zero, List.set_cons_succ]
      refine wpT_pureD (v := ?_) (some 28) rfl rfl (by rfl) (fun w' => ?_) ?_
      rotate_left
      · (go_simp; try with_reducible rfl)
      try simp only [Act.put, List.setIfInBounds_toArray, List.set_cons_zero, List.set_cons_succ]
      refine wpT_pureD (v := ?_) (some 29) rfl rfl (by rfl) (fun w' => ?_) ?_
      rotate_left
      · (go_simp; try with_reducible rfl)
      try simp only [Act.put, List.setIfInBounds_toArray, List.set_cons_zero, List.set_cons_succ]
      refine wpT_pureD (v := ?_) (some 30) rfl rfl (by rfl) (fun w' => ?_) ?_
      rotate_left
      · (go_simp; try with_reducible rfl)
      try simp only [Act.put, List.setIfInBounds_toArray, List.set_cons_zero, List.set_cons_succ]
      refine wpT_brk rfl (by rfl) (fun K hK => ?_)
      go_wp2_with fail
      refine wpT_end ?_
      go_wp2
      have e : up (eraseW S.f z B k) q (S.f q ||| B) = eraseW S.f z B (k + 1) := by rw [HQ.out]; exact eraseW_succ _ _ _ _
      have g := HF.out.set q (S.f q ||| B) hqn
      rw [show ({ S.step with f := eraseW S.f z B k } : FS).f = eraseW S.f z B k from rfl, e] at g
      refine ⟨⟨k + 1, by omega, by first | (rw [HQ.out]; rfl) | (rw [hw1, HQ.out]; rfl), g.keep (E := []) (Chg.refl _ _).drew (by simp), by first | exact (HCk.out.setCell (Or.inl (by simp)) _).drew | exact HCk.out.drew.setCell (Or.inl (by simp)) _⟩, ?_⟩
      have := HQE.out
      first | (simp only [intOf]; omega) | (rw [hw1]; simp only [intOf]; omega)
    · obtain rfl : k = 16 := by omega
      have hqe : q = ze := by have := HZ.out; omega
      subst hqe
      have dq : decide ((q : Int) < (q : Int)) = false := by simp
      have c4 : wo.cell? ⟨b, 34, none⟩ = some (.bool S.step.de) := hF.c34
      rw [step_de] at c4
      clear hF hC hq
      go_wp2
      go_ret
      exact ⟨ret_b (by simp), by rw [HE.out]; exact HF.out, HCk.out⟩
end Go.Proofs.L
