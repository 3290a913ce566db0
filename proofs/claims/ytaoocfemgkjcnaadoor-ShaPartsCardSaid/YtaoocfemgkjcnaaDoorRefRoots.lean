/- Proved here: lemmas and contracts (RefRoots) for the laws of this seat, for all values of the stated types; no further condition. -/
import Derived.Test.YtaoocfemgkjcnaaDoorRootsDefs
open Go Go.RowKit Go.Lib
namespace Go.Proofs.L
attribute [local irreducible] wpT
theorem outAt_succ (k p : Nat) (hp : 2 ≤ p) : outAt k (p + 1) = outAt k p ++ (if primeB p then [rootN p k] else []) := by
  unfold outAt
  rw [List.range_succ, List.filter_append, List.map_append]
  congr 1
  cases h : primeB p <;> simp [h, hp]
theorem outAt_mono (k p q : Nat) (h : p ≤ q) (h2 : 2 ≤ p) : ∃ R, outAt k q = outAt k p ++ R := by
  induction q with
  | zero => exact ⟨[], by rw [show p = 0 by omega]; simp⟩
  | succ q ih =>
    by_cases hp : p = q + 1
    · exact ⟨[], by rw [hp]; simp⟩
    · obtain ⟨R, hR⟩ := ih (by omega)
      exact ⟨R ++ _, by rw [outAt_succ k q (by omega), hR, List.append_assoc]⟩
theorem primeTo_B (p d : Nat) (hd : d ≤ 18) (h2 : 2 ≤ d) (h3 : p < d * d) (h4 : d = 2 ∨ (d - 1) * (d - 1) ≤ p) : primeTo p d = primeB p := by
  unfold primeTo primeB
  have hs : List.range 18 = List.range d ++ (List.range (18 - d)).map (d + ·) := by
    rw [← List.range_add, show d + (18 - d) = 18 by omega]
  rw [hs, List.all_append]
  have h5 : ((List.range (18 - d)).map (d + ·)).all (fun c => decide (c < 2) || decide (p < c * c) || decide (0 < p % c)) = true := by
    rw [List.all_eq_true]
    intro c hc
    rw [List.mem_map] at hc
    obtain ⟨e, _, rfl⟩ := hc
    have : d * d ≤ (d + e) * (d + e) := Nat.mul_le_mul (by omega) (by omega)
    rw [decide_eq_true (show p < (d + e) * (d + e) by omega)]
    simp
  rw [h5, Bool.and_true]
  rw [Bool.eq_iff_iff, List.all_eq_true, List.all_eq_true]
  refine forall_congr' fun c => ?_
  refine imp_congr_right fun hc => ?_
  by_cases c2 : c < 2
  · simp [c2]
  · have hcd : c < d := List.mem_range.1 hc
    have : ¬ p < c * c := by
      rcases h4 with h4 | h4
      · omega
      · have : c * c ≤ (d - 1) * (d - 1) := Nat.mul_le_mul (by omega) (by omega)
        omega
    simp [this]
theorem primeTo_succ (p d : Nat) (h2 : 2 ≤ d) : primeTo p (d + 1) = (primeTo p d && decide (0 < p % d)) := by
  unfold primeTo
  rw [List.range_succ, List.all_append]
  simp [show ¬ d < 2 by omega]
theorem info36 : (Tryd.prog.info? 36).map (fun i => (i.zero, i.size, i.bytes)) = some (some (.int .u64 0), 1, 8) := by kernel_rfl
theorem info5 : (Tryd.prog.info? 5).map (fun i => (i.zero, i.size, i.bytes)) = some (some (.int .u8 0), 1, 1) := by kernel_rfl
theorem one_cell {k : IntKind} {w : World} {b x : Nat} (h : w.row? b = some #[.int k (x : Int)]) : ∀ (j y : Nat), [x][j]? = some y → w.cell? ⟨b, 0 + j, none⟩ = some (.int k (y : Int)) := by
  intro j y hj
  rw [row_cell h, Nat.zero_add]
  cases j with
  | zero => obtain rfl := Option.some.inj hj; rfl
  | succ j => simp at hj
def RootsQ (W : World) (L : List Nat) (e : Ending) (w' : World) : Prop := ∃ v, e = .returned v ∧ w'.ownsRow W.heap.size 36 1 v L.length (natL .u64 L) ∧ Chg [] W w'
set_option maxRecDepth 100000 in
set_option maxHeartbeats 1600000 in
theorem roots_any (W : World) (n k P : Nat) (hP : (outAt k P).length = n) (hP2 : 2 ≤ P) (hP3 : P ≤ 320) (hn : n ≤ 64) (hk : k ≤ 3) :
    Calls Tryd.prog 12 #[.int .i64 (n : Int), .int .i64 (k : Int)] W (RootsQ W (outAt k P)) := by
  have HP := Lib.hid hP
  have HP2 := Lib.hid hP2
  have HP3 := Lib.hid hP3
  have HN := Lib.hid hn
  have HK := Lib.hid hk
  clear hP hP2 hP3 hn hk
  go_enter Tryd.func12, Tryd.ntmps12
  go_wp2_with fail
  go_loopw [5, 6] (fun v pp wr => ∃ p : Nat, 2 ≤ p ∧ p ≤ P ∧ pp = .int .u64 (p : Int) ∧ wr.ownsRow W.heap.size 36 1 v (outAt k p).length (natL .u64 (outAt k p)) ∧ Chg [] W wr) (fun _ pp _ => P - (intOf pp).toNat)
  case atStart => exact ⟨2, Nat.le_refl _, HP2.out, rfl, World.ownsRow_nil _ _ _ _, Chg.refl _ _⟩
  case round =>
    obtain ⟨p, hp2, hpP, rfl, hown, hch⟩ := hrel
    have HO := Lib.hid hown
    have HC := Lib.hid hch
    have HPP := Lib.hid hpP
    have HL2 := Lib.hid hp2
    obtain ⟨m, hm⟩ : ∃ m, m = (outAt k p).length := ⟨_, rfl⟩
    have hmn : m < n → p < P := fun h => by
      by_cases e : p = P
      · exfalso; have := HP.out; rw [hm, e] at h; omega
      · omega
    have hme : ¬ m < n → outAt k p = outAt k P := fun h => by
      obtain ⟨R, hR⟩ := outAt_mono k p P hpP hp2
      have h1 := congrArg List.length hR
      rw [HP.out, List.length_append, ← hm] at h1
      rw [hR, List.eq_nil_of_length_eq_zero (show R.length = 0 by omega), List.append_nil]
    rw [← hm] at HO
    have HM := Lib.hid hm
    have HMN := Lib.hid hmn
    have HME := Lib.hid hme
    clear hown hch hpP hp2 hm hmn hme
    obtain ⟨pm, cm, rfl, _⟩ := own_form HO.out
    by_cases hlt : m < n
    · have hI : (m : Int) < (n : Int) := by omega
      have HLT := Lib.hid hlt
      go_wp2_with fail
      have HO2 := HO
      clear hI hlt
      go_loopw [8, 7] (fun i f wq => ∃ d : Nat, 2 ≤ d ∧ d ≤ 18 ∧ (d = 2 ∨ (d - 1) * (d - 1) ≤ p) ∧ i = .int .u64 (d : Int) ∧ f = .bool (primeTo p d) ∧ Chg [] wr wq) (fun i _ _ => 18 - (intOf i).toNat)
      case atStart => exact ⟨2, Nat.le_refl _, by decide, .inl rfl, rfl, rfl, Chg.refl _ _⟩
      case round =>
        obtain ⟨d, hd2, hd18, hdd, rfl, rfl, hcd⟩ := hrel
        have HO3 : Hid (wr.ownsRow W.heap.size 36 1 (.slice pm m cm) m (natL .u64 (outAt k p))) := Lib.hid (ownsRow_chg HO2.out hcd (by intro k _; simp))
        have HCD := Lib.hid hcd
        have HC3 : Hid (Chg [] W wr) := Lib.hid (HC.out.trans hcd)
        have hp320 : p ≤ 320 := by have := HPP.out; have := HP3.out; omega
        obtain ⟨dd, hdq⟩ : ∃ z, z = d * d := ⟨_, rfl⟩
        have hddl : dd ≤ 18 * 18 := by rw [hdq]; exact Nat.mul_le_mul hd18 hd18
        have w1 : IntKind.u64.wrap ((d : Int) * (d : Int)) = (dd : Int) := wmul (by rw [← hdq]; exact (Nat.mod_eq_of_lt (by omega)).symm)
        have HD2 := Lib.hid hd2
        have HD18 := Lib.hid hd18
        have HDD := Lib.hid hdd
        have HDQ := Lib.hid hdq
        have dz : ¬ (d : Int) = 0 := by omega
        have dzN : ¬ d = 0 := by omega
        clear hcd hd2 hd18 hdd
        by_cases hle : dd ≤ p
        · have hI : (dd : Int) ≤ (p : Int) := by omega
          have h17 : Hid (d < 18) := Lib.hid (Nat.lt_of_not_le fun h => by
            have := Nat.mul_le_mul h h
            rw [← hdq] at this
            omega)
          have HN1 : Hid (d + 1 = 2 ∨ (d + 1 - 1) * (d + 1 - 1) ≤ p) := Lib.hid (.inr (by rw [Nat.add_sub_cancel, ← hdq]; exact hle))
          obtain ⟨r, hr⟩ : ∃ r, r = p % d := ⟨_, rfl⟩
          have w2 : (p : Int) % (d : Int) = (r : Int) := by rw [hr, Int.natCast_emod]
          have w3 : (p : Int).tmod (d : Int) = (r : Int) := by rw [Int.tmod_eq_emod_of_nonneg (Int.natCast_nonneg _)]; exact w2
          have w4 : IntKind.u64.wrap ((d : Int) + 1) = ((d + 1 : Nat) : Int) := by rw [u64w]; have := h17.out; omega
          have hps := primeTo_succ p d HD2.out
          rw [← hr] at hps
          have HPS := Lib.hid hps
          obtain ⟨f, hf⟩ : ∃ f, f = primeTo p d := ⟨_, rfl⟩
          rw [← hf] at HPS ⊢
          clear hr hps hf hdq hddl
          cases f
          · have HF : Hid (primeTo p (d + 1) = false) := Lib.hid (by rw [HPS.out]; rfl)
            go_wp2
            case roundEnd => exact ⟨⟨d + 1, by have := HD2.out; omega, by have := h17.out; omega, HN1.out, by first | rfl | rw [w4], by rw [HF.out], HCD.out⟩, by simp only [intOf]; have := h17.out; omega⟩
          · by_cases hr0 : 0 < r
            · have hI0 : (0 : Int) < (r : Int) := by omega
              have HF : Hid (primeTo p (d + 1) = true) := Lib.hid (by rw [HPS.out, decide_eq_true hr0]; rfl)
              go_wp2
              case roundEnd => exact ⟨⟨d + 1, by have := HD2.out; omega, by have := h17.out; omega, HN1.out, by first | rfl | rw [w4], by rw [HF.out], HCD.out⟩, by simp only [intOf]; have := h17.out; omega⟩
            · have hI0 : ¬ (0 : Int) < (r : Int) := by omega
              have HF : Hid (primeTo p (d + 1) = false) := Lib.hid (by rw [HPS.out, decide_eq_false hr0]; rfl)
              go_wp2
              case roundEnd => exact ⟨⟨d + 1, by have := HD2.out; omega, by have := h17.out; omega, HN1.out, by first | rfl | rw [w4], by rw [HF.out], HCD.out⟩, by simp only [intOf]; have := h17.out; omega⟩
        · have hI : ¬ (dd : Int) ≤ (p : Int) := by omega
          have hpB : primeTo p d = primeB p := primeTo_B p d HD18.out HD2.out (by rw [← HDQ.out]; omega) HDD.out
          rw [hpB]
          have hos := outAt_succ k p HL2.out
          have HOS := Lib.hid hos
          have HPL := Lib.hid (HMN.out HLT.out)
          have hpw : IntKind.u64.wrap ((p : Int) + 1) = ((p + 1 : Nat) : Int) := by rw [u64w]; omega
          have HPW := Lib.hid hpw
          obtain ⟨f, hf⟩ : ∃ f, f = primeB p := ⟨_, rfl⟩
          rw [← hf] at HOS ⊢
          clear hpB hos hpw hf hdq hddl dz dzN
          cases f
          · have HOS2 : Hid (outAt k (p + 1) = outAt k p) := Lib.hid (by rw [HOS.out]; simp)
            have pI : (p : Int) < 1000 := by omega
            go_wp2
            case roundEnd =>
              refine ⟨⟨p + 1, by have := HL2.out; omega, HPL.out, by first | rfl | rw [HPW.out], ?_, HC3.out⟩, by first | (simp only [intOf]; have := HPL.out; omega) | (rw [HPW.out]; simp only [intOf]; have := HPL.out; omega)⟩
              rw [HOS2.out, ← HM.out]
              exact HO3.out
          · have HOS2 : Hid (outAt k (p + 1) = outAt k p ++ [rootN p k]) := Lib.hid (by rw [HOS.out]; simp)
            go_wp2_with fail
            refine (root_any wr p k (by omega) HK.out).mono ?_
            rintro e v1 ⟨rfl, hc1⟩
            obtain ⟨r, hr⟩ : ∃ r, r = rootN p k := ⟨_, rfl⟩
            rw [← hr] at HOS2 ⊢
            obtain ⟨B, hB⟩ : ∃ B, B = v1.heap.size := ⟨_, rfl⟩
            obtain ⟨X, hX⟩ : ∃ X, X = v1.alloc (.cells #[.int .u64 (r : Int)] 36) := ⟨_, rfl⟩
            have hcX : Chg [] wr X := by rw [hX]; exact hc1.alloc _
            have HCX : Hid (Chg [] W X) := Lib.hid (HC3.out.trans hcX)
            have HOX : Hid (X.ownsRow W.heap.size 36 1 (.slice pm m cm) m (natL .u64 (outAt k p))) := Lib.hid (ownsRow_chg HO3.out hcX (by intro k _; simp))
            have HRW : Hid (X.row? B = some #[.int .u64 (r : Int)]) := Lib.hid (by rw [hX]; exact row_alloc_at _ _ _ _ hB)
            have HB := Lib.hid hB
            have HX := Lib.hid hX
            have pI : (p : Int) < 1000 := by omega
            clear hc1 hr hcX hB hX hI hle w1
            go_wp2_with (at_builtin; rw [← HB.out, ← HX.out]; refine app_nat rfl _ _ 34 36 .u64 8 rfl Tryd.underlying34 info36 (by decide) W.heap.size (.slice pm m cm) m (outAt k p) rfl HOX.out B 0 1 1 [r] rfl rfl (one_cell HRW.out) (by have := HLT.out; have := HN.out; omega) HCX.out.size ?_)
            intro v' w5 hx1 hx2
            have HC5 : Hid (Chg [] W w5) := Lib.hid (chg_grown HCX.out hx2 (fun x hx => (HOX.out.lt x hx).1))
            have HO5 : Hid (w5.ownsRow W.heap.size 36 1 v' (outAt k (p + 1)).length (natL .u64 (outAt k (p + 1)))) := Lib.hid (by
              rw [HOS2.out, List.length_append, ← HM.out]; unfold natL; rw [List.map_append]; exact hx1)
            clear hx1 hx2
            go_wp2
            case roundEnd =>
              refine ⟨⟨p + 1, by have := HL2.out; omega, HPL.out, by first | rfl | rw [HPW.out], HO5.out, HC5.out⟩, by first | (simp only [intOf]; have := HPL.out; omega) | (rw [HPW.out]; simp only [intOf]; have := HPL.out; omega)⟩
    · have hI : ¬ (m : Int) < (n : Int) := by omega
      have HE := Lib.hid (HME.out hlt)
      go_wp2_with fail
      have HO9 : Hid (wr.ownsRow W.heap.size 36 1 (.slice pm m cm) (outAt k P).length (natL .u64 (outAt k P))) := Lib.hid (by
        have := HO.out
        rw [HE.out] at this
        have e : m = (outAt k P).length := by rw [HM.out, HE.out]
        rw [← e]; exact this)
      go_ret
      exact ⟨_, rfl, HO9.out, HC.out⟩
end Go.Proofs.L
