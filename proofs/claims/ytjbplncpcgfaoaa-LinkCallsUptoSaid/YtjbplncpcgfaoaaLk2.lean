/- Proved here: lemmas and contracts (Lk2) for the laws of this seat, for all values of the stated types; no further condition. -/
import Derived.Test.YtjbplncpcgfaoaaLk1
open Go Go.RowKit Go.Lib
namespace Go.Proofs.L
attribute [local irreducible] wpT
/-! up, right -/
theorem u32b (a : Nat) (h : a < 4294967296) : (BitVec.ofInt 32 (a : Int)).toNat = a := by
  rw [BitVec.toNat_ofInt]; omega
theorem andNot15 (a : Nat) (ha : a < 4294967296) : bits .andNot .u32 (a : Int) ((2 ^ 4 - 1 : Nat) : Int) = ((a / 16 * 16 : Nat) : Int) := by
  show IntKind.u32.wrap ((BitVec.ofInt 32 (a : Int) &&& ~~~ BitVec.ofInt 32 (((2 ^ 4 - 1 : Nat)) : Int)).toNat : Int) = _
  have h : (BitVec.ofInt 32 (a : Int) &&& ~~~ BitVec.ofInt 32 (((2 ^ 4 - 1 : Nat)) : Int)).toNat = a / 16 * 16 := by
    rw [BitVec.toNat_and, BitVec.toNat_not, u32b a ha, u32b _ (by decide)]
    apply Nat.eq_of_testBit_eq
    intro i
    rw [Nat.testBit_and, show a / 16 * 16 = 2 ^ 4 * (a / 2 ^ 4) by omega, Nat.testBit_two_pow_mul, Nat.testBit_div_two_pow, show 2 ^ 32 - 1 - (2 ^ 4 - 1) = 2 ^ 4 * (2 ^ 28 - 1) by decide, Nat.testBit_two_pow_mul, Nat.testBit_two_pow_sub_one]
    by_cases h : i < 32
    · by_cases h2 : 4 ≤ i
      · simp [h2, show i - 4 < 28 by omega]
      · simp [h2]
    · rw [Nat.testBit_lt_two_pow (x := a) (by have : (2:Nat) ^ 32 ≤ 2 ^ i := Nat.pow_le_pow_right (by decide) (by omega); omega)]
      by_cases h2 : 4 ≤ i
      · rw [show a.testBit (i - 4 + 4) = a.testBit i by rw [show i - 4 + 4 = i by omega], Nat.testBit_lt_two_pow (x := a) (by have : (2:Nat) ^ 32 ≤ 2 ^ i := Nat.pow_le_pow_right (by decide) (by omega); omega)]
        simp
      · omega
  rw [h]
  exact u32id (by omega) (by omega)
set_option maxRecDepth 100000 in
set_option maxHeartbeats 1600000 in
theorem up_any (n : Nat) (hn : n < 4294967000) (w : World) : Calls Try.prog 19 #[.int .u32 (n : Int)] w fun e w' => e = .returned (.int .u32 (upN n : Int)) ∧ w' = w := by
  have w1 : IntKind.u32.wrap ((n : Int) + 16) = ((n + 16 : Nat) : Int) := by rw [u32id (by omega) (by omega)]; omega
  have w2 : IntKind.u32.wrap ((n : Int) + 16 - 1) = ((n + 15 : Nat) : Int) := by rw [u32id (by omega) (by omega)]; omega
  have HN := Lib.hid (andNot15 (n + 15) (by omega))
  clear hn
  go_enter Try.func19, Try.ntmps19
  go_wp2
  go_ret
  refine ⟨?_, rfl⟩
  have h := HN.out
  rw [show (((n + 15 : Nat)) : Int) = (n : Int) + 15 by omega] at h
  exact congrArg (fun x => Ending.returned (.int .u32 x)) h
theorem name_ne {a : ByteArray} (h : a ≠ ⟨#[]⟩) : a.toList.isEmpty = false := by
  cases hb : a.toList.isEmpty with
  | false => rfl
  | true =>
    exfalso
    apply h
    have h2 : a.toList = [] := List.isEmpty_iff.1 hb
    have h3 : a.data.toList = [] := by rw [← ByteArray.toList_eq]; exact h2
    obtain ⟨⟨l⟩⟩ := a
    simp only at h3
    rw [h3]
theorem wpT_skipD {P : Program} {Q : Exit → Act → World → Prop} {ops : Array Oper} {S : World → Prop} {r : List (Nat × Nat)} {a : Act} {w : World} {i c : Nat} {o : Oper} (d : Option Tmp) (ho : ops[i]? = some o) (hd : o.dst = d) (hw : Region.wanted o (yielded ops a.tmps) = false)
    (h : wpT P ops Q S r (a.put d undef) w) : wpT P ops Q S ((i, c) :: r) a w := by subst hd; exact wpT_skip ho hw h
def baseB (s : Ob) : Bool := decide (s.nc ≤ 16384 ∧ s.nd ≤ 16384 ∧ s.z ≤ 16384 ∧ s.z % 4 = 0 ∧ s.nc % 4 = 0 ∧ s.nd % 4 = 0 ∧ s.nf ≤ 64 ∧ s.nr ≤ 64)
def dfB (s : Ob) (d : Df) : Bool := decide (d.name ≠ ⟨#[]⟩ ∧ d.name.size ≤ 32 ∧ 0 ≤ d.sec ∧ d.sec ≤ 2 ∧ d.at_ ≤ sizeO s d.sec)
def rfB (s : Ob) (r : Rf) : Bool := decide (0 ≤ r.sec ∧ r.sec ≤ 1 ∧ 1 ≤ r.ty ∧ r.ty ≤ 255 ∧ r.ty ≠ 3 ∧ r.at_ + 4 ≤ sizeO s r.sec)
def rightB (s : Ob) : Bool := baseB s && s.F.all (dfB s) && s.R.all (rfB s)
theorem a53 : aggT Try.prog 53 5 := aggT_of (by kernel_rfl)
theorem a55 : aggT Try.prog 55 3 := aggT_of (by kernel_rfl)
theorem a57 : aggT Try.prog 57 5 := aggT_of (by kernel_rfl)
theorem wrapK (k : Nat) (h : k < 1000) : wrap64 ((k : Int) + 1) = ((k + 1 : Nat) : Int) := wrap1 k (by omega)
theorem all_bad {α : Type} {L : List α} {p : α → Bool} {k : Nat} {x : α} (hk : L[k]? = some x) (h : p x = false) : L.all p = false := by
  rw [List.all_eq_false]
  exact ⟨x, List.mem_of_getElem? hk, by rw [h]; decide⟩
theorem all_good {α : Type} {L : List α} {p : α → Bool} (h : ∀ (j : Nat) (x : α), L[j]? = some x → p x = true) : L.all p = true := by
  rw [List.all_eq_true]
  intro x hx
  obtain ⟨j, hj⟩ := List.mem_iff_getElem?.1 hx
  exact h j x hj
theorem u64id {n : Int} (h : 0 ≤ n) (h1 : n < 18446744073709551616) : IntKind.u64.wrap n = n := by
  simp [IntKind.wrap, IntKind.bits, IntKind.signed]; omega
set_option maxRecDepth 100000 in
set_option maxHeartbeats 4000000 in
theorem right_any (s : Ob) (w : World) (hs : ObOk w s) : Calls Try.prog 17 #[.agg (obA s)] w fun e w' => e = .returned (.bool (rightB s)) ∧ Chg [] w w' := by
  have HS := Lib.hid hs
  clear hs
  go_enter Try.func17, Try.ntmps17
  go_upto_region 1 with (fail)
  obtain ⟨Z, hZ⟩ : ∃ Z, Z = w.alloc (.cells (obA s) 53) := ⟨_, rfl⟩
  obtain ⟨B, hB⟩ : ∃ B, B = w.heap.size := ⟨_, rfl⟩
  have hr : Z.row? B = some (obA s) := by rw [hZ]; exact row_alloc_at _ _ _ _ hB
  have HCZ : Hid (Chg [] w Z) := Lib.hid (by rw [hZ]; exact (Chg.refl _ _).alloc _)
  rw [← hZ, ← hB]
  have d0 : Z.cell? ⟨B, 0, none⟩ = some (.slice s.pc s.nc s.cc) := by rw [row_cell hr]; rfl
  have d1 : Z.cell? ⟨B, 1, none⟩ = some (.slice s.pd s.nd s.cd) := by rw [row_cell hr]; rfl
  have d2 : Z.cell? ⟨B, 2, none⟩ = some (.int .u32 (s.z : Int)) := by rw [row_cell hr]; rfl
  have d3 : Z.cell? ⟨B, 3, none⟩ = some (.slice s.pf s.nf s.cf) := by rw [row_cell hr]; rfl
  have d4 : Z.cell? ⟨B, 4, none⟩ = some (.slice s.pr s.nr s.cr) := by rw [row_cell hr]; rfl
  have HRZ := Lib.hid hr
  clear hZ hB hr
  go_cut [53] (fun v wx => v = .bool (!(baseB s)) ∧ wx = Z)
  case first =>
    go_wp2_with fail
    all_goals go_meet
    all_goals refine ⟨congrArg Value.bool ?_, rfl⟩
    all_goals (rw [Bool.eq_iff_iff]; unfold baseB; simp; try omega)
  case rest =>
    obtain ⟨rfl, h⟩ := hcut
    obtain rfl := h.symm
    clear d0 d1 d2 d4
    cases hb : baseB s
    case false =>
      have HB := Lib.hid hb
      clear hb
      go_wp2
      go_ret
      exact ⟨by rw [show rightB s = false by unfold rightB; rw [HB.out]; rfl]; rfl, HCZ.out⟩
    case true =>
      have HB := Lib.hid hb
      have hb2 := hb
      unfold baseB at hb2
      rw [decide_eq_true_eq] at hb2
      have HNC : Hid (s.nc < 4294967296) := Lib.hid (by omega)
      have HND : Hid (s.nd < 4294967296) := Lib.hid (by omega)
      have HNF : Hid (s.nf ≤ 64) := Lib.hid (by omega)
      have HNR : Hid (s.nr ≤ 64) := Lib.hid (by omega)
      have HZL : Hid (∀ k, sizeO s k ≤ 16384) := Lib.hid (by intro k; unfold sizeO; split; omega; split; omega; split; omega; omega)
      clear hb hb2
      rw [show (!true) = false from rfl]
      obtain ⟨pf, hpe⟩ : ∃ p, p = s.pf := ⟨_, rfl⟩
      rw [← hpe] at d3
      have HPF : Hid (0 < s.nf → pf = some ⟨s.bf, s.of_, none⟩) := Lib.hid (by rw [hpe]; exact HS.out.Fp)
      clear hpe
      go_wp2_with fail
      clear d3
      go_loopw [57] (fun i wr => ∃ k : Nat, k ≤ s.nf ∧ i = .int .i64 (k : Int) ∧ (∀ j d, j < k → s.F[j]? = some d → dfB s d = true) ∧ Chg [] Z wr) (fun i _ => s.nf - (intOf i).toNat)
      case atStart => exact ⟨0, Nat.zero_le _, rfl, fun j d hj => by omega, Chg.refl _ _⟩
      case round =>
        obtain ⟨k, hk, rfl, hall, hch⟩ := hrel
        have HK := Lib.hid hk
        have HALL := Lib.hid hall
        have HCH := Lib.hid hch
        clear hk hall hch
        by_cases hkn : k < s.nf
        · have HKN := Lib.hid hkn
          have dI : (k : Int) < (s.nf : Int) := by omega
          have HW := Lib.hid (wrapK k (by have := HNF.out; omega))
          obtain ⟨d, hd⟩ : ∃ d, s.F[k]? = some d := ⟨_, List.getElem?_eq_getElem (by rw [HS.out.Fn]; exact hkn)⟩
          have HD := Lib.hid hd
          have HSC := Lib.hid ((HS.out.keep (HCZ.out.trans HCH.out)).Fa k d hd).1
          obtain rfl := HPF.out (by omega)
          obtain ⟨Z2, hZ2⟩ : ∃ Z2, Z2 = wr.alloc (.cells (DfC d).toArray 55) := ⟨_, rfl⟩
          obtain ⟨Bd, hBd⟩ : ∃ b, b = wr.heap.size := ⟨_, rfl⟩
          have hc2 : Chg [] wr Z2 := by rw [hZ2]; exact (Chg.refl _ _).alloc _
          have hr2 : Z2.row? Bd = some (DfC d).toArray := by rw [hZ2]; exact row_alloc_at _ _ _ _ hBd
          have HC2 := Lib.hid (HCH.out.trans hc2)
          have e0 : Hid (Z2.drew.cell? ⟨Bd, 0, none⟩ = some (.string d.name)) := Lib.hid (show Z2.cell? _ = _ by rw [row_cell hr2]; rfl)
          have e1 : Hid (Z2.drew.cell? ⟨Bd, 1, none⟩ = some (.int .i64 d.sec)) := Lib.hid (show Z2.cell? _ = _ by rw [row_cell hr2]; rfl)
          have e2 : Hid (Z2.drew.cell? ⟨Bd, 2, none⟩ = some (.int .u32 (d.at_ : Int))) := Lib.hid (show Z2.cell? _ = _ by rw [row_cell hr2]; rfl)
          have HRB : Hid (Z2.drew.row? B = some (obA s)) := Lib.hid (show Z2.row? B = _ from (HC2.out.row (row_lt HRZ.out) (by simp)).trans HRZ.out)
          have HZ2 := Lib.hid hZ2
          have HBd := Lib.hid hBd
          clear hd hZ2 hBd hc2 hr2 hkn
          go_upto_region 6 with (first | (refine wpList_load_part a55 (DfC d) rfl _ rfl rfl rfl HSC.out ?_) | (refine wpList_store_new a55 _ _ rfl rfl rfl rfl rfl rfl rfl rfl ?_))
          rw [← HZ2.out, ← HBd.out]
          clear HZ2 HBd dI
          go_upto_if 88 with (fail)
          go_cut [88] (fun v wx => v = .bool (!(dfB s d)) ∧ Chg [] Z wx)
          case first =>
            by_cases hA : d.name = ⟨#[]⟩
            · have f0 : d.name.toList.isEmpty = true := by rw [hA, ByteArray.toList_eq]; rfl
              refine wp_region_C (fun w' => w'.cell? ⟨Bd, 0, none⟩ = some (.string d.name) ∧ w'.cell? ⟨Bd, 1, none⟩ = some (.int .i64 d.sec) ∧ w'.cell? ⟨Bd, 2, none⟩ = some (.int .u32 (d.at_ : Int)) ∧ w'.row? B = some (obA s)) [(0, 0), (1, 1), (2, 0), (3, 0), (4, 0), (5, 1), (6, 0), (7, 0), (8, 0), (9, 0), (10, 0), (11, 1), (12, 0), (13, 0), (14, 0), (15, 0), (16, 1), (17, 0), (18, 0), (19, 0), (20, 0), (21, 1), (22, 1), (23, 0), (24, 1), (25, 1), (26, 0), (27, 0)] rfl (by kernel_rfl) ?hSA0 ?hTA0
              case hSA0 => exact ⟨e0.out, e1.out, e2.out, HRB.out⟩
              refine wpT_pureD (v := ?_) (some 61) rfl rfl (by rfl) (fun w' => ?_) ?_
              rotate_left
              · (go_simp; try with_reducible rfl)
              try simp only [Act.put, List.setIfInBounds_toArray, List.set_cons_zero, List.set_cons_succ]
              refine wpT_readD (v := ?_) (some 62) rfl rfl (by rfl) (fun w' hw => ?_) ?_
              rotate_left
              · (obtain ⟨q0, q1, q2, q3⟩ := hw; go_simp; try with_reducible rfl)
              try simp only [Act.put, List.setIfInBounds_toArray, List.set_cons_zero, List.set_cons_succ]
              refine wpT_pureD (v := ?_) (some 63) rfl rfl (by rfl) (fun w' => ?_) ?_
              rotate_left
              · (go_simp; try with_reducible rfl)
              try simp only [Act.put, List.setIfInBounds_toArray, List.set_cons_zero, List.set_cons_succ]
              refine wpT_pureD (v := ?_) (some 64) rfl rfl (by rfl) (fun w' => ?_) ?_
              rotate_left
              · (go_simp; try with_reducible rfl)
              try simp only [Act.put, List.setIfInBounds_toArray, List.set_cons_zero, List.set_cons_succ]
              refine wpT_skipD (some 65) rfl rfl (by rfl) ?_
              try simp only [Act.put, List.setIfInBounds_toArray, List.set_cons_zero, List.set_cons_succ]
              refine wpT_skipD (some 66) rfl rfl (by rfl) ?_
              try simp only [Act.put, List.setIfInBounds_toArray, List.set_cons_zero, List.set_cons_succ]
              refine wpT_skipD (some 67) rfl rfl (by rfl) ?_
              try simp only [Act.put, List.setIfInBounds_toArray, List.set_cons_zero, List.set_cons_succ]
              refine wpT_skipD (some 68) rfl rfl (by rfl) ?_
              try simp only [Act.put, List.setIfInBounds_toArray, List.set_cons_zero, List.set_cons_succ]
              refine wpT_pureD (v := ?_) (some 69) rfl rfl (by rfl) (fun w' => ?_) ?_
              rotate_left
              · (go_simp; try with_reducible rfl)
              try simp only [Act.put, List.setIfInBounds_toArray, List.set_cons_zero, List.set_cons_succ]
              refine wpT_pureD (v := ?_) (some 70) rfl rfl (by rfl) (fun w' => ?_) ?_
              rotate_left
              · (go_simp; try with_reducible rfl)
              try simp only [Act.put, List.setIfInBounds_toArray, List.set_cons_zero, List.set_cons_succ]
              refine wpT_skipD (some 71) rfl rfl (by rfl) ?_
              try simp only [Act.put, List.setIfInBounds_toArray, List.set_cons_zero, List.set_cons_succ]
              refine wpT_skipD (some 72) rfl rfl (by rfl) ?_
              try simp only [Act.put, List.setIfInBounds_toArray, List.set_cons_zero, List.set_cons_succ]
              refine wpT_skipD (some 73) rfl rfl (by rfl) ?_
              try simp only [Act.put, List.setIfInBounds_toArray, List.set_cons_zero, List.set_cons_succ]
              refine wpT_pureD (v := ?_) (some 74) rfl rfl (by rfl) (fun w' => ?_) ?_
              rotate_left
              · (go_simp; try with_reducible rfl)
              try simp only [Act.put, List.setIfInBounds_toArray, List.set_cons_zero, List.set_cons_succ]
              refine wpT_pureD (v := ?_) (some 75) rfl rfl (by rfl) (fun w' => ?_) ?_
              rotate_left
              · (go_simp; try with_reducible rfl)
              try simp only [Act.put, List.setIfInBounds_toArray, List.set_cons_zero, List.set_cons_succ]
              refine wpT_skipD (some 76) rfl rfl (by rfl) ?_
              try simp only [Act.put, List.setIfInBounds_toArray, List.set_cons_zero, List.set_cons_succ]
              refine wpT_skipD (some 77) rfl rfl (by rfl) ?_
              try simp only [Act.put, List.setIfInBounds_toArray, List.set_cons_zero, List.set_cons_succ]
              refine wpT_skipD (some 78) rfl rfl (by rfl) ?_
              try simp only [Act.put, List.setIfInBounds_toArray, List.set_cons_zero, List.set_cons_succ]
              refine wpT_pureD (v := ?_) (some 79) rfl rfl (by rfl) (fun w' => ?_) ?_
              rotate_left
              · (go_simp; try with_reducible rfl)
              try simp only [Act.put, List.setIfInBounds_toArray, List.set_cons_zero, List.set_cons_succ]
              refine wpT_pureD (v := ?_) (some 80) rfl rfl (by rfl) (fun w' => ?_) ?_
              rotate_left
              · (go_simp; try with_reducible rfl)
              try simp only [Act.put, List.setIfInBounds_toArray, List.set_cons_zero, List.set_cons_succ]
              refine wpT_skipD (some 81) rfl rfl (by rfl) ?_
              try simp only [Act.put, List.setIfInBounds_toArray, List.set_cons_zero, List.set_cons_succ]
              refine wpT_skipD (some 82) rfl rfl (by rfl) ?_
              try simp only [Act.put, List.setIfInBounds_toArray, List.set_cons_zero, List.set_cons_succ]
              refine wpT_skipD (some 83) rfl rfl (by rfl) ?_
              try simp only [Act.put, List.setIfInBounds_toArray, List.set_cons_zero, List.set_cons_succ]
              refine wpT_skipD (some 84) rfl rfl (by rfl) ?_
              try simp only [Act.put, List.setIfInBounds_toArray, List.set_cons_zero, List.set_cons_succ]
              refine wpT_skipD (some 85) rfl rfl (by rfl) ?_
              try simp only [Act.put, List.setIfInBounds_toArray, List.set_cons_zero, List.set_cons_succ]
              refine wpT_skipD (some 86) rfl rfl (by rfl) ?_
              try simp only [Act.put, List.setIfInBounds_toArray, List.set_cons_zero, List.set_cons_succ]
              refine wpT_skipD (some 87) rfl rfl (by rfl) ?_
              try simp only [Act.put, List.setIfInBounds_toArray, List.set_cons_zero, List.set_cons_succ]
              refine wpT_pureD (v := ?_) (some 88) rfl rfl (by rfl) (fun w' => ?_) ?_
              rotate_left
              · (go_simp; try with_reducible rfl)
              try simp only [Act.put, List.setIfInBounds_toArray, List.set_cons_zero, List.set_cons_succ]
              refine wpT_end ?_
              go_wp2_with fail
              go_meet
              refine ⟨congrArg Value.bool ?_, HC2.out.trans (Chg.refl _ _).drew⟩
              rw [Bool.eq_iff_iff]; unfold dfB; simp; first | exact .inl hA | (simp only [hA, false_or]; omega) | omega
            · skip
              by_cases hB : 32 < d.name.size
              · have f0 : d.name.toList.isEmpty = false := name_ne hA
                have f1 : (32 : Int) < (d.name.size : Int) := by omega
                refine wp_region_C (fun w' => w'.cell? ⟨Bd, 0, none⟩ = some (.string d.name) ∧ w'.cell? ⟨Bd, 1, none⟩ = some (.int .i64 d.sec) ∧ w'.cell? ⟨Bd, 2, none⟩ = some (.int .u32 (d.at_ : Int)) ∧ w'.row? B = some (obA s)) [(0, 0), (1, 1), (2, 0), (3, 0), (4, 0), (5, 1), (6, 0), (7, 0), (8, 0), (9, 0), (10, 0), (11, 1), (12, 0), (13, 0), (14, 0), (15, 0), (16, 1), (17, 0), (18, 0), (19, 0), (20, 0), (21, 1), (22, 1), (23, 0), (24, 1), (25, 1), (26, 0), (27, 0)] rfl (by kernel_rfl) ?hSA1 ?hTA1
                case hSA1 => exact ⟨e0.out, e1.out, e2.out, HRB.out⟩
                refine wpT_pureD (v := ?_) (some 61) rfl rfl (by rfl) (fun w' => ?_) ?_
                rotate_left
                · (go_simp; try with_reducible rfl)
                try simp only [Act.put, List.setIfInBounds_toArray, List.set_cons_zero, List.set_cons_succ]
                refine wpT_readD (v := ?_) (some 62) rfl rfl (by rfl) (fun w' hw => ?_) ?_
                rotate_left
                · (obtain ⟨q0, q1, q2, q3⟩ := hw; go_simp; try with_reducible rfl)
                try simp only [Act.put, List.setIfInBounds_toArray, List.set_cons_zero, List.set_cons_succ]
                refine wpT_pureD (v := ?_) (some 63) rfl rfl (by rfl) (fun w' => ?_) ?_
                rotate_left
                · (go_simp; try with_reducible rfl)
                try simp only [Act.put, List.setIfInBounds_toArray, List.set_cons_zero, List.set_cons_succ]
                refine wpT_pureD (v := ?_) (some 64) rfl rfl (by rfl) (fun w' => ?_) ?_
                rotate_left
                · (go_simp; try with_reducible rfl)
                try simp only [Act.put, List.setIfInBounds_toArray, List.set_cons_zero, List.set_cons_succ]
                refine wpT_pureD (v := ?_) (some 65) rfl rfl (by rfl) (fun w' => ?_) ?_
                rotate_left
                · (go_simp; try with_reducible rfl)
                try simp only [Act.put, List.setIfInBounds_toArray, List.set_cons_zero, List.set_cons_succ]
                refine wpT_readD (v := ?_) (some 66) rfl rfl (by rfl) (fun w' hw => ?_) ?_
                rotate_left
                · (obtain ⟨q0, q1, q2, q3⟩ := hw; go_simp; try with_reducible rfl)
                try simp only [Act.put, List.setIfInBounds_toArray, List.set_cons_zero, List.set_cons_succ]
                refine wpT_pureD (v := ?_) (some 67) rfl rfl (by rfl) (fun w' => ?_) ?_
                rotate_left
                · (go_simp; try with_reducible rfl)
                try simp only [Act.put, List.setIfInBounds_toArray, List.set_cons_zero, List.set_cons_succ]
                refine wpT_pureD (v := ?_) (some 68) rfl rfl (by rfl) (fun w' => ?_) ?_
                rotate_left
                · (go_simp; try with_reducible rfl)
                try simp only [Act.put, List.setIfInBounds_toArray, List.set_cons_zero, List.set_cons_succ]
                refine wpT_pureD (v := ?_) (some 69) rfl rfl (by rfl) (fun w' => ?_) ?_
                rotate_left
                · (go_simp; try with_reducible rfl)
                try simp only [Act.put, List.setIfInBounds_toArray, List.set_cons_zero, List.set_cons_succ]
                refine wpT_pureD (v := ?_) (some 70) rfl rfl (by rfl) (fun w' => ?_) ?_
                rotate_left
                · (go_simp; try with_reducible rfl)
                try simp only [Act.put, List.setIfInBounds_toArray, List.set_cons_zero, List.set_cons_succ]
                refine wpT_skipD (some 71) rfl rfl (by rfl) ?_
                try simp only [Act.put, List.setIfInBounds_toArray, List.set_cons_zero, List.set_cons_succ]
                refine wpT_skipD (some 72) rfl rfl (by rfl) ?_
                try simp only [Act.put, List.setIfInBounds_toArray, List.set_cons_zero, List.set_cons_succ]
                refine wpT_skipD (some 73) rfl rfl (by rfl) ?_
                try simp only [Act.put, List.setIfInBounds_toArray, List.set_cons_zero, List.set_cons_succ]
                refine wpT_pureD (v := ?_) (some 74) rfl rfl (by rfl) (fun w' => ?_) ?_
                rotate_left
                · (go_simp; try with_reducible rfl)
                try simp only [Act.put, List.setIfInBounds_toArray, List.set_cons_zero, List.set_cons_succ]
                refine wpT_pureD (v := ?_) (some 75) rfl rfl (by rfl) (fun w' => ?_) ?_
                rotate_left
                · (go_simp; try with_reducible rfl)
                try simp only [Act.put, List.setIfInBounds_toArray, List.set_cons_zero, List.set_cons_succ]
                refine wpT_skipD (some 76) rfl rfl (by rfl) ?_
                try simp only [Act.put, List.setIfInBounds_toArray, List.set_cons_zero, List.set_cons_succ]
                refine wpT_skipD (some 77) rfl rfl (by rfl) ?_
                try simp only [Act.put, List.setIfInBounds_toArray, List.set_cons_zero, List.set_cons_succ]
                refine wpT_skipD (some 78) rfl rfl (by rfl) ?_
                try simp only [Act.put, List.setIfInBounds_toArray, List.set_cons_zero, List.set_cons_succ]
                refine wpT_pureD (v := ?_) (some 79) rfl rfl (by rfl) (fun w' => ?_) ?_
                rotate_left
                · (go_simp; try with_reducible rfl)
                try simp only [Act.put, List.setIfInBounds_toArray, List.set_cons_zero, List.set_cons_succ]
                refine wpT_pureD (v := ?_) (some 80) rfl rfl (by rfl) (fun w' => ?_) ?_
                rotate_left
                · (go_simp; try with_reducible rfl)
                try simp only [Act.put, List.setIfInBounds_toArray, List.set_cons_zero, List.set_cons_succ]
                refine wpT_skipD (some 81) rfl rfl (by rfl) ?_
                try simp only [Act.put, List.setIfInBounds_toArray, List.set_cons_zero, List.set_cons_succ]
                refine wpT_skipD (some 82) rfl rfl (by rfl) ?_
                try simp only [Act.put, List.setIfInBounds_toArray, List.set_cons_zero, List.set_cons_succ]
                refine wpT_skipD (some 83) rfl rfl (by rfl) ?_
                try simp only [Act.put, List.setIfInBounds_toArray, List.set_cons_zero, List.set_cons_succ]
                refine wpT_skipD (some 84) rfl rfl (by rfl) ?_
                try simp only [Act.put, List.setIfInBounds_toArray, List.set_cons_zero, List.set_cons_succ]
                refine wpT_skipD (some 85) rfl rfl (by rfl) ?_
                try simp only [Act.put, List.setIfInBounds_toArray, List.set_cons_zero, List.set_cons_succ]
                refine wpT_skipD (some 86) rfl rfl (by rfl) ?_
                try simp only [Act.put, List.setIfInBounds_toArray, List.set_cons_zero, List.set_cons_succ]
                refine wpT_skipD (some 87) rfl rfl (by rfl) ?_
                try simp only [Act.put, List.setIfInBounds_toArray, List.set_cons_zero, List.set_cons_succ]
                refine wpT_pureD (v := ?_) (some 88) rfl rfl (by rfl) (fun w' => ?_) ?_
                rotate_left
                · (go_simp; try with_reducible rfl)
                try simp only [Act.put, List.setIfInBounds_toArray, List.set_cons_zero, List.set_cons_succ]
                refine wpT_end ?_
                go_wp2_with fail
                go_meet
                refine ⟨congrArg Value.bool ?_, HC2.out.trans (Chg.refl _ _).drew⟩
                rw [Bool.eq_iff_iff]; unfold dfB; simp; first | exact .inl hA | (simp only [hA, false_or]; omega) | omega
              · skip
                by_cases hC : d.sec < 0
                · have f0 : d.name.toList.isEmpty = false := name_ne hA
                  have f1 : ¬ (32 : Int) < (d.name.size : Int) := by omega
                  refine wp_region_C (fun w' => w'.cell? ⟨Bd, 0, none⟩ = some (.string d.name) ∧ w'.cell? ⟨Bd, 1, none⟩ = some (.int .i64 d.sec) ∧ w'.cell? ⟨Bd, 2, none⟩ = some (.int .u32 (d.at_ : Int)) ∧ w'.row? B = some (obA s)) [(0, 0), (1, 1), (2, 0), (3, 0), (4, 0), (5, 1), (6, 0), (7, 0), (8, 0), (9, 0), (10, 0), (11, 1), (12, 0), (13, 0), (14, 0), (15, 0), (16, 1), (17, 0), (18, 0), (19, 0), (20, 0), (21, 1), (22, 1), (23, 0), (24, 1), (25, 1), (26, 0), (27, 0)] rfl (by kernel_rfl) ?hSA2 ?hTA2
                  case hSA2 => exact ⟨e0.out, e1.out, e2.out, HRB.out⟩
                  refine wpT_pureD (v := ?_) (some 61) rfl rfl (by rfl) (fun w' => ?_) ?_
                  rotate_left
                  · (go_simp; try with_reducible rfl)
                  try simp only [Act.put, List.setIfInBounds_toArray, List.set_cons_zero, List.set_cons_succ]
                  refine wpT_readD (v := ?_) (some 62) rfl rfl (by rfl) (fun w' hw => ?_) ?_
                  rotate_left
                  · (obtain ⟨q0, q1, q2, q3⟩ := hw; go_simp; try with_reducible rfl)
                  try simp only [Act.put, List.setIfInBounds_toArray, List.set_cons_zero, List.set_cons_succ]
                  refine wpT_pureD (v := ?_) (some 63) rfl rfl (by rfl) (fun w' => ?_) ?_
                  rotate_left
                  · (go_simp; try with_reducible rfl)
                  try simp only [Act.put, List.setIfInBounds_toArray, List.set_cons_zero, List.set_cons_succ]
                  refine wpT_pureD (v := ?_) (some 64) rfl rfl (by rfl) (fun w' => ?_) ?_
                  rotate_left
                  · (go_simp; try with_reducible rfl)
                  try simp only [Act.put, List.setIfInBounds_toArray, List.set_cons_zero, List.set_cons_succ]
                  refine wpT_pureD (v := ?_) (some 65) rfl rfl (by rfl) (fun w' => ?_) ?_
                  rotate_left
                  · (go_simp; try with_reducible rfl)
                  try simp only [Act.put, List.setIfInBounds_toArray, List.set_cons_zero, List.set_cons_succ]
                  refine wpT_readD (v := ?_) (some 66) rfl rfl (by rfl) (fun w' hw => ?_) ?_
                  rotate_left
                  · (obtain ⟨q0, q1, q2, q3⟩ := hw; go_simp; try with_reducible rfl)
                  try simp only [Act.put, List.setIfInBounds_toArray, List.set_cons_zero, List.set_cons_succ]
                  refine wpT_pureD (v := ?_) (some 67) rfl rfl (by rfl) (fun w' => ?_) ?_
                  rotate_left
                  · (go_simp; try with_reducible rfl)
                  try simp only [Act.put, List.setIfInBounds_toArray, List.set_cons_zero, List.set_cons_succ]
                  refine wpT_pureD (v := ?_) (some 68) rfl rfl (by rfl) (fun w' => ?_) ?_
                  rotate_left
                  · (go_simp; try with_reducible rfl)
                  try simp only [Act.put, List.setIfInBounds_toArray, List.set_cons_zero, List.set_cons_succ]
                  refine wpT_pureD (v := ?_) (some 69) rfl rfl (by rfl) (fun w' => ?_) ?_
                  rotate_left
                  · (go_simp; try with_reducible rfl)
                  try simp only [Act.put, List.setIfInBounds_toArray, List.set_cons_zero, List.set_cons_succ]
                  refine wpT_pureD (v := ?_) (some 70) rfl rfl (by rfl) (fun w' => ?_) ?_
                  rotate_left
                  · (go_simp; try with_reducible rfl)
                  try simp only [Act.put, List.setIfInBounds_toArray, List.set_cons_zero, List.set_cons_succ]
                  refine wpT_pureD (v := ?_) (some 71) rfl rfl (by rfl) (fun w' => ?_) ?_
                  rotate_left
                  · (go_simp; try with_reducible rfl)
                  try simp only [Act.put, List.setIfInBounds_toArray, List.set_cons_zero, List.set_cons_succ]
                  refine wpT_readD (v := ?_) (some 72) rfl rfl (by rfl) (fun w' hw => ?_) ?_
                  rotate_left
                  · (obtain ⟨q0, q1, q2, q3⟩ := hw; go_simp; try with_reducible rfl)
                  try simp only [Act.put, List.setIfInBounds_toArray, List.set_cons_zero, List.set_cons_succ]
                  refine wpT_pureD (v := ?_) (some 73) rfl rfl (by rfl) (fun w' => ?_) ?_
                  rotate_left
                  · (go_simp; try with_reducible rfl)
                  try simp only [Act.put, List.setIfInBounds_toArray, List.set_cons_zero, List.set_cons_succ]
                  refine wpT_pureD (v := ?_) (some 74) rfl rfl (by rfl) (fun w' => ?_) ?_
                  rotate_left
                  · (go_simp; try with_reducible rfl)
                  try simp only [Act.put, List.setIfInBounds_toArray, List.set_cons_zero, List.set_cons_succ]
                  refine wpT_pureD (v := ?_) (some 75) rfl rfl (by rfl) (fun w' => ?_) ?_
                  rotate_left
                  · (go_simp; try with_reducible rfl)
                  try simp only [Act.put, List.setIfInBounds_toArray, List.set_cons_zero, List.set_cons_succ]
                  refine wpT_skipD (some 76) rfl rfl (by rfl) ?_
                  try simp only [Act.put, List.setIfInBounds_toArray, List.set_cons_zero, List.set_cons_succ]
                  refine wpT_skipD (some 77) rfl rfl (by rfl) ?_
                  try simp only [Act.put, List.setIfInBounds_toArray, List.set_cons_zero, List.set_cons_succ]
                  refine wpT_skipD (some 78) rfl rfl (by rfl) ?_
                  try simp only [Act.put, List.setIfInBounds_toArray, List.set_cons_zero, List.set_cons_succ]
                  refine wpT_pureD (v := ?_) (some 79) rfl rfl (by rfl) (fun w' => ?_) ?_
                  rotate_left
                  · (go_simp; try with_reducible rfl)
                  try simp only [Act.put, List.setIfInBounds_toArray, List.set_cons_zero, List.set_cons_succ]
                  refine wpT_pureD (v := ?_) (some 80) rfl rfl (by rfl) (fun w' => ?_) ?_
                  rotate_left
                  · (go_simp; try with_reducible rfl)
                  try simp only [Act.put, List.setIfInBounds_toArray, List.set_cons_zero, List.set_cons_succ]
                  refine wpT_skipD (some 81) rfl rfl (by rfl) ?_
                  try simp only [Act.put, List.setIfInBounds_toArray, List.set_cons_zero, List.set_cons_succ]
                  refine wpT_skipD (some 82) rfl rfl (by rfl) ?_
                  try simp only [Act.put, List.setIfInBounds_toArray, List.set_cons_zero, List.set_cons_succ]
                  refine wpT_skipD (some 83) rfl rfl (by rfl) ?_
                  try simp only [Act.put, List.setIfInBounds_toArray, List.set_cons_zero, List.set_cons_succ]
                  refine wpT_skipD (some 84) rfl rfl (by rfl) ?_
                  try simp only [Act.put, List.setIfInBounds_toArray, List.set_cons_zero, List.set_cons_succ]
                  refine wpT_skipD (some 85) rfl rfl (by rfl) ?_
                  try simp only [Act.put, List.setIfInBounds_toArray, List.set_cons_zero, List.set_cons_succ]
                  refine wpT_skipD (some 86) rfl rfl (by rfl) ?_
                  try simp only [Act.put, List.setIfInBounds_toArray, List.set_cons_zero, List.set_cons_succ]
                  refine wpT_skipD (some 87) rfl rfl (by rfl) ?_
                  try simp only [Act.put, List.setIfInBounds_toArray, List.set_cons_zero, List.set_cons_succ]
                  refine wpT_pureD (v := ?_) (some 88) rfl rfl (by rfl) (fun w' => ?_) ?_
                  rotate_left
                  · (go_simp; try with_reducible rfl)
                  try simp only [Act.put, List.setIfInBounds_toArray, List.set_cons_zero, List.set_cons_succ]
                  refine wpT_end ?_
                  go_wp2_with fail
                  go_meet
                  refine ⟨congrArg Value.bool ?_, HC2.out.trans (Chg.refl _ _).drew⟩
                  rw [Bool.eq_iff_iff]; unfold dfB; simp; first | exact .inl hA | (simp only [hA, false_or]; omega) | omega
                · skip
                  by_cases hD : 2 < d.sec
                  · have f0 : d.name.toList.isEmpty = false := name_ne hA
                    have f1 : ¬ (32 : Int) < (d.name.size : Int) := by omega
                    refine wp_region_C (fun w' => w'.cell? ⟨Bd, 0, none⟩ = some (.string d.name) ∧ w'.cell? ⟨Bd, 1, none⟩ = some (.int .i64 d.sec) ∧ w'.cell? ⟨Bd, 2, none⟩ = some (.int .u32 (d.at_ : Int)) ∧ w'.row? B = some (obA s)) [(0, 0), (1, 1), (2, 0), (3, 0), (4, 0), (5, 1), (6, 0), (7, 0), (8, 0), (9, 0), (10, 0), (11, 1), (12, 0), (13, 0), (14, 0), (15, 0), (16, 1), (17, 0), (18, 0), (19, 0), (20, 0), (21, 1), (22, 1), (23, 0), (24, 1), (25, 1), (26, 0), (27, 0)] rfl (by kernel_rfl) ?hSA3 ?hTA3
                    case hSA3 => exact ⟨e0.out, e1.out, e2.out, HRB.out⟩
                    refine wpT_pureD (v := ?_) (some 61) rfl rfl (by rfl) (fun w' => ?_) ?_
                    rotate_left
                    · (go_simp; try with_reducible rfl)
                    try simp only [Act.put, List.setIfInBounds_toArray, List.set_cons_zero, List.set_cons_succ]
                    refine wpT_readD (v := ?_) (some 62) rfl rfl (by rfl) (fun w' hw => ?_) ?_
                    rotate_left
                    · (obtain ⟨q0, q1, q2, q3⟩ := hw; go_simp; try with_reducible rfl)
                    try simp only [Act.put, List.setIfInBounds_toArray, List.set_cons_zero, List.set_cons_succ]
                    refine wpT_pureD (v := ?_) (some 63) rfl rfl (by rfl) (fun w' => ?_) ?_
                    rotate_left
                    · (go_simp; try with_reducible rfl)
                    try simp only [Act.put, List.setIfInBounds_toArray, List.set_cons_zero, List.set_cons_succ]
                    refine wpT_pureD (v := ?_) (some 64) rfl rfl (by rfl) (fun w' => ?_) ?_
                    rotate_left
                    · (go_simp; try with_reducible rfl)
                    try simp only [Act.put, List.setIfInBounds_toArray, List.set_cons_zero, List.set_cons_succ]
                    refine wpT_pureD (v := ?_) (some 65) rfl rfl (by rfl) (fun w' => ?_) ?_
                    rotate_left
                    · (go_simp; try with_reducible rfl)
                    try simp only [Act.put, List.setIfInBounds_toArray, List.set_cons_zero, List.set_cons_succ]
                    refine wpT_readD (v := ?_) (some 66) rfl rfl (by rfl) (fun w' hw => ?_) ?_
                    rotate_left
                    · (obtain ⟨q0, q1, q2, q3⟩ := hw; go_simp; try with_reducible rfl)
                    try simp only [Act.put, List.setIfInBounds_toArray, List.set_cons_zero, List.set_cons_succ]
                    refine wpT_pureD (v := ?_) (some 67) rfl rfl (by rfl) (fun w' => ?_) ?_
                    rotate_left
                    · (go_simp; try with_reducible rfl)
                    try simp only [Act.put, List.setIfInBounds_toArray, List.set_cons_zero, List.set_cons_succ]
                    refine wpT_pureD (v := ?_) (some 68) rfl rfl (by rfl) (fun w' => ?_) ?_
                    rotate_left
                    · (go_simp; try with_reducible rfl)
                    try simp only [Act.put, List.setIfInBounds_toArray, List.set_cons_zero, List.set_cons_succ]
                    refine wpT_pureD (v := ?_) (some 69) rfl rfl (by rfl) (fun w' => ?_) ?_
                    rotate_left
                    · (go_simp; try with_reducible rfl)
                    try simp only [Act.put, List.setIfInBounds_toArray, List.set_cons_zero, List.set_cons_succ]
                    refine wpT_pureD (v := ?_) (some 70) rfl rfl (by rfl) (fun w' => ?_) ?_
                    rotate_left
                    · (go_simp; try with_reducible rfl)
                    try simp only [Act.put, List.setIfInBounds_toArray, List.set_cons_zero, List.set_cons_succ]
                    refine wpT_pureD (v := ?_) (some 71) rfl rfl (by rfl) (fun w' => ?_) ?_
                    rotate_left
                    · (go_simp; try with_reducible rfl)
                    try simp only [Act.put, List.setIfInBounds_toArray, List.set_cons_zero, List.set_cons_succ]
                    refine wpT_readD (v := ?_) (some 72) rfl rfl (by rfl) (fun w' hw => ?_) ?_
                    rotate_left
                    · (obtain ⟨q0, q1, q2, q3⟩ := hw; go_simp; try with_reducible rfl)
                    try simp only [Act.put, List.setIfInBounds_toArray, List.set_cons_zero, List.set_cons_succ]
                    refine wpT_pureD (v := ?_) (some 73) rfl rfl (by rfl) (fun w' => ?_) ?_
                    rotate_left
                    · (go_simp; try with_reducible rfl)
                    try simp only [Act.put, List.setIfInBounds_toArray, List.set_cons_zero, List.set_cons_succ]
                    refine wpT_pureD (v := ?_) (some 74) rfl rfl (by rfl) (fun w' => ?_) ?_
                    rotate_left
                    · (go_simp; try with_reducible rfl)
                    try simp only [Act.put, List.setIfInBounds_toArray, List.set_cons_zero, List.set_cons_succ]
                    refine wpT_pureD (v := ?_) (some 75) rfl rfl (by rfl) (fun w' => ?_) ?_
                    rotate_left
                    · (go_simp; try with_reducible rfl)
                    try simp only [Act.put, List.setIfInBounds_toArray, List.set_cons_zero, List.set_cons_succ]
                    refine wpT_pureD (v := ?_) (some 76) rfl rfl (by rfl) (fun w' => ?_) ?_
                    rotate_left
                    · (go_simp; try with_reducible rfl)
                    try simp only [Act.put, List.setIfInBounds_toArray, List.set_cons_zero, List.set_cons_succ]
                    refine wpT_readD (v := ?_) (some 77) rfl rfl (by rfl) (fun w' hw => ?_) ?_
                    rotate_left
                    · (obtain ⟨q0, q1, q2, q3⟩ := hw; go_simp; try with_reducible rfl)
                    try simp only [Act.put, List.setIfInBounds_toArray, List.set_cons_zero, List.set_cons_succ]
                    refine wpT_pureD (v := ?_) (some 78) rfl rfl (by rfl) (fun w' => ?_) ?_
                    rotate_left
                    · (go_simp; try with_reducible rfl)
                    try simp only [Act.put, List.setIfInBounds_toArray, List.set_cons_zero, List.set_cons_succ]
                    refine wpT_pureD (v := ?_) (some 79) rfl rfl (by rfl) (fun w' => ?_) ?_
                    rotate_left
                    · (go_simp; try with_reducible rfl)
                    try simp only [Act.put, List.setIfInBounds_toArray, List.set_cons_zero, List.set_cons_succ]
                    refine wpT_pureD (v := ?_) (some 80) rfl rfl (by rfl) (fun w' => ?_) ?_
                    rotate_left
                    · (go_simp; try with_reducible rfl)
                    try simp only [Act.put, List.setIfInBounds_toArray, List.set_cons_zero, List.set_cons_succ]
                    refine wpT_skipD (some 81) rfl rfl (by rfl) ?_
                    try simp only [Act.put, List.setIfInBounds_toArray, List.set_cons_zero, List.set_cons_succ]
                    refine wpT_skipD (some 82) rfl rfl (by rfl) ?_
                    try simp only [Act.put, List.setIfInBounds_toArray, List.set_cons_zero, List.set_cons_succ]
                    refine wpT_skipD (some 83) rfl rfl (by rfl) ?_
                    try simp only [Act.put, List.setIfInBounds_toArray, List.set_cons_zero, List.set_cons_succ]
                    refine wpT_skipD (some 84) rfl rfl (by rfl) ?_
                    try simp only [Act.put, List.setIfInBounds_toArray, List.set_cons_zero, List.set_cons_succ]
                    refine wpT_skipD (some 85) rfl rfl (by rfl) ?_
                    try simp only [Act.put, List.setIfInBounds_toArray, List.set_cons_zero, List.set_cons_succ]
                    refine wpT_skipD (some 86) rfl rfl (by rfl) ?_
                    try simp only [Act.put, List.setIfInBounds_toArray, List.set_cons_zero, List.set_cons_succ]
                    refine wpT_skipD (some 87) rfl rfl (by rfl) ?_
                    try simp only [Act.put, List.setIfInBounds_toArray, List.set_cons_zero, List.set_cons_succ]
                    refine wpT_pureD (v := ?_) (some 88) rfl rfl (by rfl) (fun w' => ?_) ?_
                    rotate_left
                    · (go_simp; try with_reducible rfl)
                    try simp only [Act.put, List.setIfInBounds_toArray, List.set_cons_zero, List.set_cons_succ]
                    refine wpT_end ?_
                    go_wp2_with fail
                    go_meet
                    refine ⟨congrArg Value.bool ?_, HC2.out.trans (Chg.refl _ _).drew⟩
                    rw [Bool.eq_iff_iff]; unfold dfB; simp; first | exact .inl hA | (simp only [hA, false_or]; omega) | omega
                  · skip
                    have f0 : d.name.toList.isEmpty = false := name_ne hA
                    have f1 : ¬ (32 : Int) < (d.name.size : Int) := by omega
                    refine wp_region_C (fun w' => w'.cell? ⟨Bd, 0, none⟩ = some (.string d.name) ∧ w'.cell? ⟨Bd, 1, none⟩ = some (.int .i64 d.sec) ∧ w'.cell? ⟨Bd, 2, none⟩ = some (.int .u32 (d.at_ : Int)) ∧ w'.row? B = some (obA s)) [(0, 0), (1, 1), (2, 0), (3, 0), (4, 0), (5, 1), (6, 0), (7, 0), (8, 0), (9, 0), (10, 0), (11, 1), (12, 0), (13, 0), (14, 0), (15, 0), (16, 1), (17, 0), (18, 0), (19, 0), (20, 0), (21, 1), (22, 1), (23, 0), (24, 1), (25, 2), (26, 0), (27, 0)] rfl (by kernel_rfl) ?hSAz ?hTAz
                    case hSAz => exact ⟨e0.out, e1.out, e2.out, HRB.out⟩
                    refine wpT_pureD (v := ?_) (some 61) rfl rfl (by rfl) (fun w' => ?_) ?_
                    rotate_left
                    · (go_simp; try with_reducible rfl)
                    try simp only [Act.put, List.setIfInBounds_toArray, List.set_cons_zero, List.set_cons_succ]
                    refine wpT_readD (v := ?_) (some 62) rfl rfl (by rfl) (fun w' hw => ?_) ?_
                    rotate_left
                    · (obtain ⟨q0, q1, q2, q3⟩ := hw; go_simp; try with_reducible rfl)
                    try simp only [Act.put, List.setIfInBounds_toArray, List.set_cons_zero, List.set_cons_succ]
                    refine wpT_pureD (v := ?_) (some 63) rfl rfl (by rfl) (fun w' => ?_) ?_
                    rotate_left
                    · (go_simp; try with_reducible rfl)
                    try simp only [Act.put, List.setIfInBounds_toArray, List.set_cons_zero, List.set_cons_succ]
                    refine wpT_pureD (v := ?_) (some 64) rfl rfl (by rfl) (fun w' => ?_) ?_
                    rotate_left
                    · (go_simp; try with_reducible rfl)
                    try simp only [Act.put, List.setIfInBounds_toArray, List.set_cons_zero, List.set_cons_succ]
                    refine wpT_pureD (v := ?_) (some 65) rfl rfl (by rfl) (fun w' => ?_) ?_
                    rotate_left
                    · (go_simp; try with_reducible rfl)
                    try simp only [Act.put, List.setIfInBounds_toArray, List.set_cons_zero, List.set_cons_succ]
                    refine wpT_readD (v := ?_) (some 66) rfl rfl (by rfl) (fun w' hw => ?_) ?_
                    rotate_left
                    · (obtain ⟨q0, q1, q2, q3⟩ := hw; go_simp; try with_reducible rfl)
                    try simp only [Act.put, List.setIfInBounds_toArray, List.set_cons_zero, List.set_cons_succ]
                    refine wpT_pureD (v := ?_) (some 67) rfl rfl (by rfl) (fun w' => ?_) ?_
                    rotate_left
                    · (go_simp; try with_reducible rfl)
                    try simp only [Act.put, List.setIfInBounds_toArray, List.set_cons_zero, List.set_cons_succ]
                    refine wpT_pureD (v := ?_) (some 68) rfl rfl (by rfl) (fun w' => ?_) ?_
                    rotate_left
                    · (go_simp; try with_reducible rfl)
                    try simp only [Act.put, List.setIfInBounds_toArray, List.set_cons_zero, List.set_cons_succ]
                    refine wpT_pureD (v := ?_) (some 69) rfl rfl (by rfl) (fun w' => ?_) ?_
                    rotate_left
                    · (go_simp; try with_reducible rfl)
                    try simp only [Act.put, List.setIfInBounds_toArray, List.set_cons_zero, List.set_cons_succ]
                    refine wpT_pureD (v := ?_) (some 70) rfl rfl (by rfl) (fun w' => ?_) ?_
                    rotate_left
                    · (go_simp; try with_reducible rfl)
                    try simp only [Act.put, List.setIfInBounds_toArray, List.set_cons_zero, List.set_cons_succ]
                    refine wpT_pureD (v := ?_) (some 71) rfl rfl (by rfl) (fun w' => ?_) ?_
                    rotate_left
                    · (go_simp; try with_reducible rfl)
                    try simp only [Act.put, List.setIfInBounds_toArray, List.set_cons_zero, List.set_cons_succ]
                    refine wpT_readD (v := ?_) (some 72) rfl rfl (by rfl) (fun w' hw => ?_) ?_
                    rotate_left
                    · (obtain ⟨q0, q1, q2, q3⟩ := hw; go_simp; try with_reducible rfl)
                    try simp only [Act.put, List.setIfInBounds_toArray, List.set_cons_zero, List.set_cons_succ]
                    refine wpT_pureD (v := ?_) (some 73) rfl rfl (by rfl) (fun w' => ?_) ?_
                    rotate_left
                    · (go_simp; try with_reducible rfl)
                    try simp only [Act.put, List.setIfInBounds_toArray, List.set_cons_zero, List.set_cons_succ]
                    refine wpT_pureD (v := ?_) (some 74) rfl rfl (by rfl) (fun w' => ?_) ?_
                    rotate_left
                    · (go_simp; try with_reducible rfl)
                    try simp only [Act.put, List.setIfInBounds_toArray, List.set_cons_zero, List.set_cons_succ]
                    refine wpT_pureD (v := ?_) (some 75) rfl rfl (by rfl) (fun w' => ?_) ?_
                    rotate_left
                    · (go_simp; try with_reducible rfl)
                    try simp only [Act.put, List.setIfInBounds_toArray, List.set_cons_zero, List.set_cons_succ]
                    refine wpT_pureD (v := ?_) (some 76) rfl rfl (by rfl) (fun w' => ?_) ?_
                    rotate_left
                    · (go_simp; try with_reducible rfl)
                    try simp only [Act.put, List.setIfInBounds_toArray, List.set_cons_zero, List.set_cons_succ]
                    refine wpT_readD (v := ?_) (some 77) rfl rfl (by rfl) (fun w' hw => ?_) ?_
                    rotate_left
                    · (obtain ⟨q0, q1, q2, q3⟩ := hw; go_simp; try with_reducible rfl)
                    try simp only [Act.put, List.setIfInBounds_toArray, List.set_cons_zero, List.set_cons_succ]
                    refine wpT_pureD (v := ?_) (some 78) rfl rfl (by rfl) (fun w' => ?_) ?_
                    rotate_left
                    · (go_simp; try with_reducible rfl)
                    try simp only [Act.put, List.setIfInBounds_toArray, List.set_cons_zero, List.set_cons_succ]
                    refine wpT_pureD (v := ?_) (some 79) rfl rfl (by rfl) (fun w' => ?_) ?_
                    rotate_left
                    · (go_simp; try with_reducible rfl)
                    try simp only [Act.put, List.setIfInBounds_toArray, List.set_cons_zero, List.set_cons_succ]
                    refine wpT_pureD (v := ?_) (some 80) rfl rfl (by rfl) (fun w' => ?_) ?_
                    rotate_left
                    · (go_simp; try with_reducible rfl)
                    try simp only [Act.put, List.setIfInBounds_toArray, List.set_cons_zero, List.set_cons_succ]
                    refine wpT_pureD (v := ?_) (some 81) rfl rfl (by rfl) (fun w' => ?_) ?_
                    rotate_left
                    · (go_simp; try with_reducible rfl)
                    try simp only [Act.put, List.setIfInBounds_toArray, List.set_cons_zero, List.set_cons_succ]
                    refine wpT_readD (v := ?_) (some 82) rfl rfl (by rfl) (fun w' hw => ?_) ?_
                    rotate_left
                    · (obtain ⟨q0, q1, q2, q3⟩ := hw; go_simp; try with_reducible rfl)
                    try simp only [Act.put, List.setIfInBounds_toArray, List.set_cons_zero, List.set_cons_succ]
                    refine wpT_load_part a53 (obA s).toList (some 83) _ rfl rfl rfl (by rfl) rfl rfl (fun w' hw j u hu => by rw [Nat.zero_add, row_cell hw.2.2.2, ← Array.getElem?_toList]; exact hu) ?_
                    try simp only [Act.put, List.setIfInBounds_toArray, List.set_cons_zero, List.set_cons_succ]
                    try simp only [Act.put, List.setIfInBounds_toArray, List.set_cons_zero, List.set_cons_succ]
                    refine wpT_pureD (v := ?_) (some 84) rfl rfl (by rfl) (fun w' => ?_) ?_
                    rotate_left
                    · (go_simp; try with_reducible rfl)
                    try simp only [Act.put, List.setIfInBounds_toArray, List.set_cons_zero, List.set_cons_succ]
                    refine wpT_readD (v := ?_) (some 85) rfl rfl (by rfl) (fun w' hw => ?_) ?_
                    rotate_left
                    · (obtain ⟨q0, q1, q2, q3⟩ := hw; go_simp; try with_reducible rfl)
                    try simp only [Act.put, List.setIfInBounds_toArray, List.set_cons_zero, List.set_cons_succ]
                    refine wpT_eff rfl (by rfl) (fun K hK => ?_)
                    go_wp2_with fail
                    refine (size_any s d.sec HNC.out HND.out _).mono ?_
                    rintro e w5 ⟨rfl, hc5⟩
                    have HC5 := Lib.hid hc5
                    clear hc5
                    go_wp2_with fail
                    refine hK _ _ ⟨keepc e0.out HC5.out (by simp), keepc e1.out HC5.out (by simp), keepc e2.out HC5.out (by simp), (HC5.out.row (row_lt HRB.out) (by simp)).trans HRB.out⟩ ?_
                    clear hK K
                    try simp only [Act.put, List.setIfInBounds_toArray, List.set_cons_zero, List.set_cons_succ]
                    refine wpT_pureD (v := ?_) (some 87) rfl rfl (by rfl) (fun w' => ?_) ?_
                    rotate_left
                    · (go_simp; try with_reducible rfl)
                    try simp only [Act.put, List.setIfInBounds_toArray, List.set_cons_zero, List.set_cons_succ]
                    refine wpT_pureD (v := ?_) (some 88) rfl rfl (by rfl) (fun w' => ?_) ?_
                    rotate_left
                    · (go_simp; try with_reducible rfl)
                    try simp only [Act.put, List.setIfInBounds_toArray, List.set_cons_zero, List.set_cons_succ]
                    refine wpT_end ?_
                    go_wp2_with fail
                    go_meet
                    refine ⟨congrArg Value.bool ?_, (HC2.out.trans (Chg.refl _ _).drew).trans HC5.out⟩
                    rw [Bool.eq_iff_iff]; unfold dfB; simp; first | exact .inl hA | (simp only [hA, false_or]; omega) | omega
          case rest =>
            obtain ⟨rfl, hcw⟩ := hcut
            have HCW := Lib.hid hcw
            clear hcw
            cases hb : dfB s d
            case false =>
              have HBD := Lib.hid hb
              clear hb
              go_wp2
              go_ret
              exact ⟨by rw [show rightB s = false by unfold rightB; rw [all_bad HD.out HBD.out, Bool.and_false, Bool.false_and]]; rfl, HCZ.out.trans HCW.out⟩
            case true =>
              have HBD := Lib.hid hb
              clear hb
              rw [show (!true) = false from rfl]
              go_wp2_with fail
              go_roundw
              case rel => exact ⟨k + 1, HKN.out, by rw [HW.out], fun j x hj hx => by
                by_cases e : j = k
                · subst e; rw [HD.out] at hx; obtain rfl := Option.some.inj hx; exact HBD.out
                · exact HALL.out j x (by omega) hx, HCW.out⟩
              case measure => rw [HW.out]; simp only [intOf, Int.toNat_natCast]; have := HKN.out; omega
        · have dI : ¬ (k : Int) < (s.nf : Int) := by omega
          have HF : Hid (s.F.all (dfB s) = true) := Lib.hid (all_good fun j x hx => HALL.out j x (by
            have := (List.getElem?_eq_some_iff.1 hx).1
            have := HS.out.Fn
            omega) hx)
          clear hkn
          have d4 : wr.cell? ⟨B, 4, none⟩ = some (.slice s.pr s.nr s.cr) := by rw [row_cell ((HCH.out.row (row_lt HRZ.out) (by simp)).trans HRZ.out)]; rfl
          have HCY : Hid (Chg [] w wr) := Lib.hid (HCZ.out.trans HCH.out)
          have HRY : Hid (wr.row? B = some (obA s)) := Lib.hid ((HCH.out.row (row_lt HRZ.out) (by simp)).trans HRZ.out)
          obtain ⟨Y, hY⟩ : ∃ Y, Y = wr := ⟨_, rfl⟩
          obtain ⟨pr, hpe⟩ : ∃ p, p = s.pr := ⟨_, rfl⟩
          rw [← hpe] at d4
          have HPR : Hid (0 < s.nr → pr = some ⟨s.br, s.or_, none⟩) := Lib.hid (by rw [hpe]; exact HS.out.Rp)
          rw [← hY] at HCY HRY d4 ⊢
          clear HCH hY hpe
          go_wp2_with fail
          clear d4 dI
          go_loopw [93] (fun i wr => ∃ k : Nat, k ≤ s.nr ∧ i = .int .i64 (k : Int) ∧ (∀ j r, j < k → s.R[j]? = some r → rfB s r = true) ∧ Chg [] Y wr) (fun i _ => s.nr - (intOf i).toNat)
          case atStart => exact ⟨0, Nat.zero_le _, rfl, fun j d hj => by omega, Chg.refl _ _⟩
          case round =>
            obtain ⟨k3, hk, rfl, hall, hch⟩ := hrel
            have HK3 := Lib.hid hk
            have HALL3 := Lib.hid hall
            have HCH3 := Lib.hid hch
            clear hk hall hch
            by_cases hkn : k3 < s.nr
            · have HKN := Lib.hid hkn
              have dI : (k3 : Int) < (s.nr : Int) := by omega
              have HW := Lib.hid (wrapK k3 (by have := HNR.out; omega))
              obtain ⟨r, hd⟩ : ∃ d, s.R[k3]? = some d := ⟨_, List.getElem?_eq_getElem (by rw [HS.out.Rn]; exact hkn)⟩
              have HD := Lib.hid hd
              have HLR := Lib.hid (HS.out.Ra k3 r hd).2.1
              have HSC := Lib.hid ((HS.out.keep (HCY.out.trans HCH3.out)).Ra k3 r hd).1
              obtain rfl := HPR.out (by omega)
              obtain ⟨Z2, hZ2⟩ : ∃ Z2, Z2 = wr.alloc (.cells (RfC r).toArray 57) := ⟨_, rfl⟩
              obtain ⟨Bd, hBd⟩ : ∃ b, b = wr.heap.size := ⟨_, rfl⟩
              have hc2 : Chg [] wr Z2 := by rw [hZ2]; exact (Chg.refl _ _).alloc _
              have hr2 : Z2.row? Bd = some (RfC r).toArray := by rw [hZ2]; exact row_alloc_at _ _ _ _ hBd
              have HC2 := Lib.hid (HCH3.out.trans hc2)
              have e0 : Hid (Z2.drew.cell? ⟨Bd, 0, none⟩ = some (.int .i64 r.sec)) := Lib.hid (show Z2.cell? _ = _ by rw [row_cell hr2]; rfl)
              have e1 : Hid (Z2.drew.cell? ⟨Bd, 1, none⟩ = some (.int .u32 (r.at_ : Int))) := Lib.hid (show Z2.cell? _ = _ by rw [row_cell hr2]; rfl)
              have e2 : Hid (Z2.drew.cell? ⟨Bd, 2, none⟩ = some (.int .i64 r.ty)) := Lib.hid (show Z2.cell? _ = _ by rw [row_cell hr2]; rfl)
              have HRB : Hid (Z2.drew.row? B = some (obA s)) := Lib.hid (show Z2.row? B = _ from (HC2.out.row (row_lt HRY.out) (by simp)).trans HRY.out)
              have HZ2 := Lib.hid hZ2
              have HBd := Lib.hid hBd
              clear hd hZ2 hBd hc2 hr2 hkn
              go_upto_region 12 with (first | (refine wpList_load_part a57 (RfC r) rfl _ rfl rfl rfl HSC.out ?_) | (refine wpList_store_new a57 _ _ rfl rfl rfl rfl rfl rfl rfl rfl ?_))
              rw [← HZ2.out, ← HBd.out]
              clear HZ2 HBd dI
              go_upto_if 131 with (fail)
              go_cut [131] (fun v wx => v = .bool (!(rfB s r)) ∧ Chg [] Y wx)
              case first =>
                by_cases hA : r.sec < 0
                · skip
                  refine wp_region_C (fun w' => w'.cell? ⟨Bd, 0, none⟩ = some (.int .i64 r.sec) ∧ w'.cell? ⟨Bd, 1, none⟩ = some (.int .u32 (r.at_ : Int)) ∧ w'.cell? ⟨Bd, 2, none⟩ = some (.int .i64 r.ty) ∧ w'.row? B = some (obA s)) [(0, 0), (1, 1), (2, 0), (3, 0), (4, 0), (5, 1), (6, 0), (7, 0), (8, 0), (9, 0), (10, 1), (11, 0), (12, 0), (13, 0), (14, 0), (15, 1), (16, 0), (17, 0), (18, 0), (19, 0), (20, 1), (21, 0), (22, 0), (23, 0), (24, 0), (25, 1), (26, 0), (27, 0), (28, 1), (29, 0), (30, 1), (31, 1), (32, 0), (33, 0), (34, 0)] rfl (by kernel_rfl) ?hSR0 ?hTR0
                  case hSR0 => exact ⟨e0.out, e1.out, e2.out, HRB.out⟩
                  refine wpT_pureD (v := ?_) (some 97) rfl rfl (by rfl) (fun w' => ?_) ?_
                  rotate_left
                  · (go_simp; try with_reducible rfl)
                  try simp only [Act.put, List.setIfInBounds_toArray, List.set_cons_zero, List.set_cons_succ]
                  refine wpT_readD (v := ?_) (some 98) rfl rfl (by rfl) (fun w' hw => ?_) ?_
                  rotate_left
                  · (obtain ⟨q0, q1, q2, q3⟩ := hw; go_simp; try with_reducible rfl)
                  try simp only [Act.put, List.setIfInBounds_toArray, List.set_cons_zero, List.set_cons_succ]
                  refine wpT_pureD (v := ?_) (some 99) rfl rfl (by rfl) (fun w' => ?_) ?_
                  rotate_left
                  · (go_simp; try with_reducible rfl)
                  try simp only [Act.put, List.setIfInBounds_toArray, List.set_cons_zero, List.set_cons_succ]
                  refine wpT_pureD (v := ?_) (some 100) rfl rfl (by rfl) (fun w' => ?_) ?_
                  rotate_left
                  · (go_simp; try with_reducible rfl)
                  try simp only [Act.put, List.setIfInBounds_toArray, List.set_cons_zero, List.set_cons_succ]
                  refine wpT_skipD (some 101) rfl rfl (by rfl) ?_
                  try simp only [Act.put, List.setIfInBounds_toArray, List.set_cons_zero, List.set_cons_succ]
                  refine wpT_skipD (some 102) rfl rfl (by rfl) ?_
                  try simp only [Act.put, List.setIfInBounds_toArray, List.set_cons_zero, List.set_cons_succ]
                  refine wpT_skipD (some 103) rfl rfl (by rfl) ?_
                  try simp only [Act.put, List.setIfInBounds_toArray, List.set_cons_zero, List.set_cons_succ]
                  refine wpT_pureD (v := ?_) (some 104) rfl rfl (by rfl) (fun w' => ?_) ?_
                  rotate_left
                  · (go_simp; try with_reducible rfl)
                  try simp only [Act.put, List.setIfInBounds_toArray, List.set_cons_zero, List.set_cons_succ]
                  refine wpT_pureD (v := ?_) (some 105) rfl rfl (by rfl) (fun w' => ?_) ?_
                  rotate_left
                  · (go_simp; try with_reducible rfl)
                  try simp only [Act.put, List.setIfInBounds_toArray, List.set_cons_zero, List.set_cons_succ]
                  refine wpT_skipD (some 106) rfl rfl (by rfl) ?_
                  try simp only [Act.put, List.setIfInBounds_toArray, List.set_cons_zero, List.set_cons_succ]
                  refine wpT_skipD (some 107) rfl rfl (by rfl) ?_
                  try simp only [Act.put, List.setIfInBounds_toArray, List.set_cons_zero, List.set_cons_succ]
                  refine wpT_skipD (some 108) rfl rfl (by rfl) ?_
                  try simp only [Act.put, List.setIfInBounds_toArray, List.set_cons_zero, List.set_cons_succ]
                  refine wpT_pureD (v := ?_) (some 109) rfl rfl (by rfl) (fun w' => ?_) ?_
                  rotate_left
                  · (go_simp; try with_reducible rfl)
                  try simp only [Act.put, List.setIfInBounds_toArray, List.set_cons_zero, List.set_cons_succ]
                  refine wpT_pureD (v := ?_) (some 110) rfl rfl (by rfl) (fun w' => ?_) ?_
                  rotate_left
                  · (go_simp; try with_reducible rfl)
                  try simp only [Act.put, List.setIfInBounds_toArray, List.set_cons_zero, List.set_cons_succ]
                  refine wpT_skipD (some 111) rfl rfl (by rfl) ?_
                  try simp only [Act.put, List.setIfInBounds_toArray, List.set_cons_zero, List.set_cons_succ]
                  refine wpT_skipD (some 112) rfl rfl (by rfl) ?_
                  try simp only [Act.put, List.setIfInBounds_toArray, List.set_cons_zero, List.set_cons_succ]
                  refine wpT_skipD (some 113) rfl rfl (by rfl) ?_
                  try simp only [Act.put, List.setIfInBounds_toArray, List.set_cons_zero, List.set_cons_succ]
                  refine wpT_pureD (v := ?_) (some 114) rfl rfl (by rfl) (fun w' => ?_) ?_
                  rotate_left
                  · (go_simp; try with_reducible rfl)
                  try simp only [Act.put, List.setIfInBounds_toArray, List.set_cons_zero, List.set_cons_succ]
                  refine wpT_pureD (v := ?_) (some 115) rfl rfl (by rfl) (fun w' => ?_) ?_
                  rotate_left
                  · (go_simp; try with_reducible rfl)
                  try simp only [Act.put, List.setIfInBounds_toArray, List.set_cons_zero, List.set_cons_succ]
                  refine wpT_skipD (some 116) rfl rfl (by rfl) ?_
                  try simp only [Act.put, List.setIfInBounds_toArray, List.set_cons_zero, List.set_cons_succ]
                  refine wpT_skipD (some 117) rfl rfl (by rfl) ?_
                  try simp only [Act.put, List.setIfInBounds_toArray, List.set_cons_zero, List.set_cons_succ]
                  refine wpT_skipD (some 118) rfl rfl (by rfl) ?_
                  try simp only [Act.put, List.setIfInBounds_toArray, List.set_cons_zero, List.set_cons_succ]
                  refine wpT_pureD (v := ?_) (some 119) rfl rfl (by rfl) (fun w' => ?_) ?_
                  rotate_left
                  · (go_simp; try with_reducible rfl)
                  try simp only [Act.put, List.setIfInBounds_toArray, List.set_cons_zero, List.set_cons_succ]
                  refine wpT_pureD (v := ?_) (some 120) rfl rfl (by rfl) (fun w' => ?_) ?_
                  rotate_left
                  · (go_simp; try with_reducible rfl)
                  try simp only [Act.put, List.setIfInBounds_toArray, List.set_cons_zero, List.set_cons_succ]
                  refine wpT_skipD (some 121) rfl rfl (by rfl) ?_
                  try simp only [Act.put, List.setIfInBounds_toArray, List.set_cons_zero, List.set_cons_succ]
                  refine wpT_skipD (some 122) rfl rfl (by rfl) ?_
                  try simp only [Act.put, List.setIfInBounds_toArray, List.set_cons_zero, List.set_cons_succ]
                  refine wpT_skipD (some 123) rfl rfl (by rfl) ?_
                  try simp only [Act.put, List.setIfInBounds_toArray, List.set_cons_zero, List.set_cons_succ]
                  refine wpT_skipD (some 124) rfl rfl (by rfl) ?_
                  try simp only [Act.put, List.setIfInBounds_toArray, List.set_cons_zero, List.set_cons_succ]
                  refine wpT_skipD (some 125) rfl rfl (by rfl) ?_
                  try simp only [Act.put, List.setIfInBounds_toArray, List.set_cons_zero, List.set_cons_succ]
                  refine wpT_skipD (some 126) rfl rfl (by rfl) ?_
                  try simp only [Act.put, List.setIfInBounds_toArray, List.set_cons_zero, List.set_cons_succ]
                  refine wpT_skipD (some 127) rfl rfl (by rfl) ?_
                  try simp only [Act.put, List.setIfInBounds_toArray, List.set_cons_zero, List.set_cons_succ]
                  refine wpT_skipD (some 128) rfl rfl (by rfl) ?_
                  try simp only [Act.put, List.setIfInBounds_toArray, List.set_cons_zero, List.set_cons_succ]
                  refine wpT_skipD (some 129) rfl rfl (by rfl) ?_
                  try simp only [Act.put, List.setIfInBounds_toArray, List.set_cons_zero, List.set_cons_succ]
                  refine wpT_skipD (some 130) rfl rfl (by rfl) ?_
                  try simp only [Act.put, List.setIfInBounds_toArray, List.set_cons_zero, List.set_cons_succ]
                  refine wpT_pureD (v := ?_) (some 131) rfl rfl (by rfl) (fun w' => ?_) ?_
                  rotate_left
                  · (go_simp; try with_reducible rfl)
                  try simp only [Act.put, List.setIfInBounds_toArray, List.set_cons_zero, List.set_cons_succ]
                  refine wpT_end ?_
                  go_wp2_with fail
                  go_meet
                  refine ⟨congrArg Value.bool ?_, HC2.out.trans (Chg.refl _ _).drew⟩
                  rw [Bool.eq_iff_iff]; unfold rfB; simp; (try omega)
                · skip
                  by_cases hB : 1 < r.sec
                  · skip
                    refine wp_region_C (fun w' => w'.cell? ⟨Bd, 0, none⟩ = some (.int .i64 r.sec) ∧ w'.cell? ⟨Bd, 1, none⟩ = some (.int .u32 (r.at_ : Int)) ∧ w'.cell? ⟨Bd, 2, none⟩ = some (.int .i64 r.ty) ∧ w'.row? B = some (obA s)) [(0, 0), (1, 1), (2, 0), (3, 0), (4, 0), (5, 1), (6, 0), (7, 0), (8, 0), (9, 0), (10, 1), (11, 0), (12, 0), (13, 0), (14, 0), (15, 1), (16, 0), (17, 0), (18, 0), (19, 0), (20, 1), (21, 0), (22, 0), (23, 0), (24, 0), (25, 1), (26, 0), (27, 0), (28, 1), (29, 0), (30, 1), (31, 1), (32, 0), (33, 0), (34, 0)] rfl (by kernel_rfl) ?hSR1 ?hTR1
                    case hSR1 => exact ⟨e0.out, e1.out, e2.out, HRB.out⟩
                    refine wpT_pureD (v := ?_) (some 97) rfl rfl (by rfl) (fun w' => ?_) ?_
                    rotate_left
                    · (go_simp; try with_reducible rfl)
                    try simp only [Act.put, List.setIfInBounds_toArray, List.set_cons_zero, List.set_cons_succ]
                    refine wpT_readD (v := ?_) (some 98) rfl rfl (by rfl) (fun w' hw => ?_) ?_
                    rotate_left
                    · (obtain ⟨q0, q1, q2, q3⟩ := hw; go_simp; try with_reducible rfl)
                    try simp only [Act.put, List.setIfInBounds_toArray, List.set_cons_zero, List.set_cons_succ]
                    refine wpT_pureD (v := ?_) (some 99) rfl rfl (by rfl) (fun w' => ?_) ?_
                    rotate_left
                    · (go_simp; try with_reducible rfl)
                    try simp only [Act.put, List.setIfInBounds_toArray, List.set_cons_zero, List.set_cons_succ]
                    refine wpT_pureD (v := ?_) (some 100) rfl rfl (by rfl) (fun w' => ?_) ?_
                    rotate_left
                    · (go_simp; try with_reducible rfl)
                    try simp only [Act.put, List.setIfInBounds_toArray, List.set_cons_zero, List.set_cons_succ]
                    refine wpT_pureD (v := ?_) (some 101) rfl rfl (by rfl) (fun w' => ?_) ?_
                    rotate_left
                    · (go_simp; try with_reducible rfl)
                    try simp only [Act.put, List.setIfInBounds_toArray, List.set_cons_zero, List.set_cons_succ]
                    refine wpT_readD (v := ?_) (some 102) rfl rfl (by rfl) (fun w' hw => ?_) ?_
                    rotate_left
                    · (obtain ⟨q0, q1, q2, q3⟩ := hw; go_simp; try with_reducible rfl)
                    try simp only [Act.put, List.setIfInBounds_toArray, List.set_cons_zero, List.set_cons_succ]
                    refine wpT_pureD (v := ?_) (some 103) rfl rfl (by rfl) (fun w' => ?_) ?_
                    rotate_left
                    · (go_simp; try with_reducible rfl)
                    try simp only [Act.put, List.setIfInBounds_toArray, List.set_cons_zero, List.set_cons_succ]
                    refine wpT_pureD (v := ?_) (some 104) rfl rfl (by rfl) (fun w' => ?_) ?_
                    rotate_left
                    · (go_simp; try with_reducible rfl)
                    try simp only [Act.put, List.setIfInBounds_toArray, List.set_cons_zero, List.set_cons_succ]
                    refine wpT_pureD (v := ?_) (some 105) rfl rfl (by rfl) (fun w' => ?_) ?_
                    rotate_left
                    · (go_simp; try with_reducible rfl)
                    try simp only [Act.put, List.setIfInBounds_toArray, List.set_cons_zero, List.set_cons_succ]
                    refine wpT_skipD (some 106) rfl rfl (by rfl) ?_
                    try simp only [Act.put, List.setIfInBounds_toArray, List.set_cons_zero, List.set_cons_succ]
                    refine wpT_skipD (some 107) rfl rfl (by rfl) ?_
                    try simp only [Act.put, List.setIfInBounds_toArray, List.set_cons_zero, List.set_cons_succ]
                    refine wpT_skipD (some 108) rfl rfl (by rfl) ?_
                    try simp only [Act.put, List.setIfInBounds_toArray, List.set_cons_zero, List.set_cons_succ]
                    refine wpT_pureD (v := ?_) (some 109) rfl rfl (by rfl) (fun w' => ?_) ?_
                    rotate_left
                    · (go_simp; try with_reducible rfl)
                    try simp only [Act.put, List.setIfInBounds_toArray, List.set_cons_zero, List.set_cons_succ]
                    refine wpT_pureD (v := ?_) (some 110) rfl rfl (by rfl) (fun w' => ?_) ?_
                    rotate_left
                    · (go_simp; try with_reducible rfl)
                    try simp only [Act.put, List.setIfInBounds_toArray, List.set_cons_zero, List.set_cons_succ]
                    refine wpT_skipD (some 111) rfl rfl (by rfl) ?_
                    try simp only [Act.put, List.setIfInBounds_toArray, List.set_cons_zero, List.set_cons_succ]
                    refine wpT_skipD (some 112) rfl rfl (by rfl) ?_
                    try simp only [Act.put, List.setIfInBounds_toArray, List.set_cons_zero, List.set_cons_succ]
                    refine wpT_skipD (some 113) rfl rfl (by rfl) ?_
                    try simp only [Act.put, List.setIfInBounds_toArray, List.set_cons_zero, List.set_cons_succ]
                    refine wpT_pureD (v := ?_) (some 114) rfl rfl (by rfl) (fun w' => ?_) ?_
                    rotate_left
                    · (go_simp; try with_reducible rfl)
                    try simp only [Act.put, List.setIfInBounds_toArray, List.set_cons_zero, List.set_cons_succ]
                    refine wpT_pureD (v := ?_) (some 115) rfl rfl (by rfl) (fun w' => ?_) ?_
                    rotate_left
                    · (go_simp; try with_reducible rfl)
                    try simp only [Act.put, List.setIfInBounds_toArray, List.set_cons_zero, List.set_cons_succ]
                    refine wpT_skipD (some 116) rfl rfl (by rfl) ?_
                    try simp only [Act.put, List.setIfInBounds_toArray, List.set_cons_zero, List.set_cons_succ]
                    refine wpT_skipD (some 117) rfl rfl (by rfl) ?_
                    try simp only [Act.put, List.setIfInBounds_toArray, List.set_cons_zero, List.set_cons_succ]
                    refine wpT_skipD (some 118) rfl rfl (by rfl) ?_
                    try simp only [Act.put, List.setIfInBounds_toArray, List.set_cons_zero, List.set_cons_succ]
                    refine wpT_pureD (v := ?_) (some 119) rfl rfl (by rfl) (fun w' => ?_) ?_
                    rotate_left
                    · (go_simp; try with_reducible rfl)
                    try simp only [Act.put, List.setIfInBounds_toArray, List.set_cons_zero, List.set_cons_succ]
                    refine wpT_pureD (v := ?_) (some 120) rfl rfl (by rfl) (fun w' => ?_) ?_
                    rotate_left
                    · (go_simp; try with_reducible rfl)
                    try simp only [Act.put, List.setIfInBounds_toArray, List.set_cons_zero, List.set_cons_succ]
                    refine wpT_skipD (some 121) rfl rfl (by rfl) ?_
                    try simp only [Act.put, List.setIfInBounds_toArray, List.set_cons_zero, List.set_cons_succ]
                    refine wpT_skipD (some 122) rfl rfl (by rfl) ?_
                    try simp only [Act.put, List.setIfInBounds_toArray, List.set_cons_zero, List.set_cons_succ]
                    refine wpT_skipD (some 123) rfl rfl (by rfl) ?_
                    try simp only [Act.put, List.setIfInBounds_toArray, List.set_cons_zero, List.set_cons_succ]
                    refine wpT_skipD (some 124) rfl rfl (by rfl) ?_
                    try simp only [Act.put, List.setIfInBounds_toArray, List.set_cons_zero, List.set_cons_succ]
                    refine wpT_skipD (some 125) rfl rfl (by rfl) ?_
                    try simp only [Act.put, List.setIfInBounds_toArray, List.set_cons_zero, List.set_cons_succ]
                    refine wpT_skipD (some 126) rfl rfl (by rfl) ?_
                    try simp only [Act.put, List.setIfInBounds_toArray, List.set_cons_zero, List.set_cons_succ]
                    refine wpT_skipD (some 127) rfl rfl (by rfl) ?_
                    try simp only [Act.put, List.setIfInBounds_toArray, List.set_cons_zero, List.set_cons_succ]
                    refine wpT_skipD (some 128) rfl rfl (by rfl) ?_
                    try simp only [Act.put, List.setIfInBounds_toArray, List.set_cons_zero, List.set_cons_succ]
                    refine wpT_skipD (some 129) rfl rfl (by rfl) ?_
                    try simp only [Act.put, List.setIfInBounds_toArray, List.set_cons_zero, List.set_cons_succ]
                    refine wpT_skipD (some 130) rfl rfl (by rfl) ?_
                    try simp only [Act.put, List.setIfInBounds_toArray, List.set_cons_zero, List.set_cons_succ]
                    refine wpT_pureD (v := ?_) (some 131) rfl rfl (by rfl) (fun w' => ?_) ?_
                    rotate_left
                    · (go_simp; try with_reducible rfl)
                    try simp only [Act.put, List.setIfInBounds_toArray, List.set_cons_zero, List.set_cons_succ]
                    refine wpT_end ?_
                    go_wp2_with fail
                    go_meet
                    refine ⟨congrArg Value.bool ?_, HC2.out.trans (Chg.refl _ _).drew⟩
                    rw [Bool.eq_iff_iff]; unfold rfB; simp; (try omega)
                  · skip
                    by_cases hC : r.ty < 1
                    · skip
                      refine wp_region_C (fun w' => w'.cell? ⟨Bd, 0, none⟩ = some (.int .i64 r.sec) ∧ w'.cell? ⟨Bd, 1, none⟩ = some (.int .u32 (r.at_ : Int)) ∧ w'.cell? ⟨Bd, 2, none⟩ = some (.int .i64 r.ty) ∧ w'.row? B = some (obA s)) [(0, 0), (1, 1), (2, 0), (3, 0), (4, 0), (5, 1), (6, 0), (7, 0), (8, 0), (9, 0), (10, 1), (11, 0), (12, 0), (13, 0), (14, 0), (15, 1), (16, 0), (17, 0), (18, 0), (19, 0), (20, 1), (21, 0), (22, 0), (23, 0), (24, 0), (25, 1), (26, 0), (27, 0), (28, 1), (29, 0), (30, 1), (31, 1), (32, 0), (33, 0), (34, 0)] rfl (by kernel_rfl) ?hSR2 ?hTR2
                      case hSR2 => exact ⟨e0.out, e1.out, e2.out, HRB.out⟩
                      refine wpT_pureD (v := ?_) (some 97) rfl rfl (by rfl) (fun w' => ?_) ?_
                      rotate_left
                      · (go_simp; try with_reducible rfl)
                      try simp only [Act.put, List.setIfInBounds_toArray, List.set_cons_zero, List.set_cons_succ]
                      refine wpT_readD (v := ?_) (some 98) rfl rfl (by rfl) (fun w' hw => ?_) ?_
                      rotate_left
                      · (obtain ⟨q0, q1, q2, q3⟩ := hw; go_simp; try with_reducible rfl)
                      try simp only [Act.put, List.setIfInBounds_toArray, List.set_cons_zero, List.set_cons_succ]
                      refine wpT_pureD (v := ?_) (some 99) rfl rfl (by rfl) (fun w' => ?_) ?_
                      rotate_left
                      · (go_simp; try with_reducible rfl)
                      try simp only [Act.put, List.setIfInBounds_toArray, List.set_cons_zero, List.set_cons_succ]
                      refine wpT_pureD (v := ?_) (some 100) rfl rfl (by rfl) (fun w' => ?_) ?_
                      rotate_left
                      · (go_simp; try with_reducible rfl)
                      try simp only [Act.put, List.setIfInBounds_toArray, List.set_cons_zero, List.set_cons_succ]
                      refine wpT_pureD (v := ?_) (some 101) rfl rfl (by rfl) (fun w' => ?_) ?_
                      rotate_left
                      · (go_simp; try with_reducible rfl)
                      try simp only [Act.put, List.setIfInBounds_toArray, List.set_cons_zero, List.set_cons_succ]
                      refine wpT_readD (v := ?_) (some 102) rfl rfl (by rfl) (fun w' hw => ?_) ?_
                      rotate_left
                      · (obtain ⟨q0, q1, q2, q3⟩ := hw; go_simp; try with_reducible rfl)
                      try simp only [Act.put, List.setIfInBounds_toArray, List.set_cons_zero, List.set_cons_succ]
                      refine wpT_pureD (v := ?_) (some 103) rfl rfl (by rfl) (fun w' => ?_) ?_
                      rotate_left
                      · (go_simp; try with_reducible rfl)
                      try simp only [Act.put, List.setIfInBounds_toArray, List.set_cons_zero, List.set_cons_succ]
                      refine wpT_pureD (v := ?_) (some 104) rfl rfl (by rfl) (fun w' => ?_) ?_
                      rotate_left
                      · (go_simp; try with_reducible rfl)
                      try simp only [Act.put, List.setIfInBounds_toArray, List.set_cons_zero, List.set_cons_succ]
                      refine wpT_pureD (v := ?_) (some 105) rfl rfl (by rfl) (fun w' => ?_) ?_
                      rotate_left
                      · (go_simp; try with_reducible rfl)
                      try simp only [Act.put, List.setIfInBounds_toArray, List.set_cons_zero, List.set_cons_succ]
                      refine wpT_pureD (v := ?_) (some 106) rfl rfl (by rfl) (fun w' => ?_) ?_
                      rotate_left
                      · (go_simp; try with_reducible rfl)
                      try simp only [Act.put, List.setIfInBounds_toArray, List.set_cons_zero, List.set_cons_succ]
                      refine wpT_readD (v := ?_) (some 107) rfl rfl (by rfl) (fun w' hw => ?_) ?_
                      rotate_left
                      · (obtain ⟨q0, q1, q2, q3⟩ := hw; go_simp; try with_reducible rfl)
                      try simp only [Act.put, List.setIfInBounds_toArray, List.set_cons_zero, List.set_cons_succ]
                      refine wpT_pureD (v := ?_) (some 108) rfl rfl (by rfl) (fun w' => ?_) ?_
                      rotate_left
                      · (go_simp; try with_reducible rfl)
                      try simp only [Act.put, List.setIfInBounds_toArray, List.set_cons_zero, List.set_cons_succ]
                      refine wpT_pureD (v := ?_) (some 109) rfl rfl (by rfl) (fun w' => ?_) ?_
                      rotate_left
                      · (go_simp; try with_reducible rfl)
                      try simp only [Act.put, List.setIfInBounds_toArray, List.set_cons_zero, List.set_cons_succ]
                      refine wpT_pureD (v := ?_) (some 110) rfl rfl (by rfl) (fun w' => ?_) ?_
                      rotate_left
                      · (go_simp; try with_reducible rfl)
                      try simp only [Act.put, List.setIfInBounds_toArray, List.set_cons_zero, List.set_cons_succ]
                      refine wpT_skipD (some 111) rfl rfl (by rfl) ?_
                      try simp only [Act.put, List.setIfInBounds_toArray, List.set_cons_zero, List.set_cons_succ]
                      refine wpT_skipD (some 112) rfl rfl (by rfl) ?_
                      try simp only [Act.put, List.setIfInBounds_toArray, List.set_cons_zero, List.set_cons_succ]
                      refine wpT_skipD (some 113) rfl rfl (by rfl) ?_
                      try simp only [Act.put, List.setIfInBounds_toArray, List.set_cons_zero, List.set_cons_succ]
                      refine wpT_pureD (v := ?_) (some 114) rfl rfl (by rfl) (fun w' => ?_) ?_
                      rotate_left
                      · (go_simp; try with_reducible rfl)
                      try simp only [Act.put, List.setIfInBounds_toArray, List.set_cons_zero, List.set_cons_succ]
                      refine wpT_pureD (v := ?_) (some 115) rfl rfl (by rfl) (fun w' => ?_) ?_
                      rotate_left
                      · (go_simp; try with_reducible rfl)
                      try simp only [Act.put, List.setIfInBounds_toArray, List.set_cons_zero, List.set_cons_succ]
                      refine wpT_skipD (some 116) rfl rfl (by rfl) ?_
                      try simp only [Act.put, List.setIfInBounds_toArray, List.set_cons_zero, List.set_cons_succ]
                      refine wpT_skipD (some 117) rfl rfl (by rfl) ?_
                      try simp only [Act.put, List.setIfInBounds_toArray, List.set_cons_zero, List.set_cons_succ]
                      refine wpT_skipD (some 118) rfl rfl (by rfl) ?_
                      try simp only [Act.put, List.setIfInBounds_toArray, List.set_cons_zero, List.set_cons_succ]
                      refine wpT_pureD (v := ?_) (some 119) rfl rfl (by rfl) (fun w' => ?_) ?_
                      rotate_left
                      · (go_simp; try with_reducible rfl)
                      try simp only [Act.put, List.setIfInBounds_toArray, List.set_cons_zero, List.set_cons_succ]
                      refine wpT_pureD (v := ?_) (some 120) rfl rfl (by rfl) (fun w' => ?_) ?_
                      rotate_left
                      · (go_simp; try with_reducible rfl)
                      try simp only [Act.put, List.setIfInBounds_toArray, List.set_cons_zero, List.set_cons_succ]
                      refine wpT_skipD (some 121) rfl rfl (by rfl) ?_
                      try simp only [Act.put, List.setIfInBounds_toArray, List.set_cons_zero, List.set_cons_succ]
                      refine wpT_skipD (some 122) rfl rfl (by rfl) ?_
                      try simp only [Act.put, List.setIfInBounds_toArray, List.set_cons_zero, List.set_cons_succ]
                      refine wpT_skipD (some 123) rfl rfl (by rfl) ?_
                      try simp only [Act.put, List.setIfInBounds_toArray, List.set_cons_zero, List.set_cons_succ]
                      refine wpT_skipD (some 124) rfl rfl (by rfl) ?_
                      try simp only [Act.put, List.setIfInBounds_toArray, List.set_cons_zero, List.set_cons_succ]
                      refine wpT_skipD (some 125) rfl rfl (by rfl) ?_
                      try simp only [Act.put, List.setIfInBounds_toArray, List.set_cons_zero, List.set_cons_succ]
                      refine wpT_skipD (some 126) rfl rfl (by rfl) ?_
                      try simp only [Act.put, List.setIfInBounds_toArray, List.set_cons_zero, List.set_cons_succ]
                      refine wpT_skipD (some 127) rfl rfl (by rfl) ?_
                      try simp only [Act.put, List.setIfInBounds_toArray, List.set_cons_zero, List.set_cons_succ]
                      refine wpT_skipD (some 128) rfl rfl (by rfl) ?_
                      try simp only [Act.put, List.setIfInBounds_toArray, List.set_cons_zero, List.set_cons_succ]
                      refine wpT_skipD (some 129) rfl rfl (by rfl) ?_
                      try simp only [Act.put, List.setIfInBounds_toArray, List.set_cons_zero, List.set_cons_succ]
                      refine wpT_skipD (some 130) rfl rfl (by rfl) ?_
                      try simp only [Act.put, List.setIfInBounds_toArray, List.set_cons_zero, List.set_cons_succ]
                      refine wpT_pureD (v := ?_) (some 131) rfl rfl (by rfl) (fun w' => ?_) ?_
                      rotate_left
                      · (go_simp; try with_reducible rfl)
                      try simp only [Act.put, List.setIfInBounds_toArray, List.set_cons_zero, List.set_cons_succ]
                      refine wpT_end ?_
                      go_wp2_with fail
                      go_meet
                      refine ⟨congrArg Value.bool ?_, HC2.out.trans (Chg.refl _ _).drew⟩
                      rw [Bool.eq_iff_iff]; unfold rfB; simp; (try omega)
                    · skip
                      by_cases hD : 255 < r.ty
                      · skip
                        refine wp_region_C (fun w' => w'.cell? ⟨Bd, 0, none⟩ = some (.int .i64 r.sec) ∧ w'.cell? ⟨Bd, 1, none⟩ = some (.int .u32 (r.at_ : Int)) ∧ w'.cell? ⟨Bd, 2, none⟩ = some (.int .i64 r.ty) ∧ w'.row? B = some (obA s)) [(0, 0), (1, 1), (2, 0), (3, 0), (4, 0), (5, 1), (6, 0), (7, 0), (8, 0), (9, 0), (10, 1), (11, 0), (12, 0), (13, 0), (14, 0), (15, 1), (16, 0), (17, 0), (18, 0), (19, 0), (20, 1), (21, 0), (22, 0), (23, 0), (24, 0), (25, 1), (26, 0), (27, 0), (28, 1), (29, 0), (30, 1), (31, 1), (32, 0), (33, 0), (34, 0)] rfl (by kernel_rfl) ?hSR3 ?hTR3
                        case hSR3 => exact ⟨e0.out, e1.out, e2.out, HRB.out⟩
                        refine wpT_pureD (v := ?_) (some 97) rfl rfl (by rfl) (fun w' => ?_) ?_
                        rotate_left
                        · (go_simp; try with_reducible rfl)
                        try simp only [Act.put, List.setIfInBounds_toArray, List.set_cons_zero, List.set_cons_succ]
                        refine wpT_readD (v := ?_) (some 98) rfl rfl (by rfl) (fun w' hw => ?_) ?_
                        rotate_left
                        · (obtain ⟨q0, q1, q2, q3⟩ := hw; go_simp; try with_reducible rfl)
                        try simp only [Act.put, List.setIfInBounds_toArray, List.set_cons_zero, List.set_cons_succ]
                        refine wpT_pureD (v := ?_) (some 99) rfl rfl (by rfl) (fun w' => ?_) ?_
                        rotate_left
                        · (go_simp; try with_reducible rfl)
                        try simp only [Act.put, List.setIfInBounds_toArray, List.set_cons_zero, List.set_cons_succ]
                        refine wpT_pureD (v := ?_) (some 100) rfl rfl (by rfl) (fun w' => ?_) ?_
                        rotate_left
                        · (go_simp; try with_reducible rfl)
                        try simp only [Act.put, List.setIfInBounds_toArray, List.set_cons_zero, List.set_cons_succ]
                        refine wpT_pureD (v := ?_) (some 101) rfl rfl (by rfl) (fun w' => ?_) ?_
                        rotate_left
                        · (go_simp; try with_reducible rfl)
                        try simp only [Act.put, List.setIfInBounds_toArray, List.set_cons_zero, List.set_cons_succ]
                        refine wpT_readD (v := ?_) (some 102) rfl rfl (by rfl) (fun w' hw => ?_) ?_
                        rotate_left
                        · (obtain ⟨q0, q1, q2, q3⟩ := hw; go_simp; try with_reducible rfl)
                        try simp only [Act.put, List.setIfInBounds_toArray, List.set_cons_zero, List.set_cons_succ]
                        refine wpT_pureD (v := ?_) (some 103) rfl rfl (by rfl) (fun w' => ?_) ?_
                        rotate_left
                        · (go_simp; try with_reducible rfl)
                        try simp only [Act.put, List.setIfInBounds_toArray, List.set_cons_zero, List.set_cons_succ]
                        refine wpT_pureD (v := ?_) (some 104) rfl rfl (by rfl) (fun w' => ?_) ?_
                        rotate_left
                        · (go_simp; try with_reducible rfl)
                        try simp only [Act.put, List.setIfInBounds_toArray, List.set_cons_zero, List.set_cons_succ]
                        refine wpT_pureD (v := ?_) (some 105) rfl rfl (by rfl) (fun w' => ?_) ?_
                        rotate_left
                        · (go_simp; try with_reducible rfl)
                        try simp only [Act.put, List.setIfInBounds_toArray, List.set_cons_zero, List.set_cons_succ]
                        refine wpT_pureD (v := ?_) (some 106) rfl rfl (by rfl) (fun w' => ?_) ?_
                        rotate_left
                        · (go_simp; try with_reducible rfl)
                        try simp only [Act.put, List.setIfInBounds_toArray, List.set_cons_zero, List.set_cons_succ]
                        refine wpT_readD (v := ?_) (some 107) rfl rfl (by rfl) (fun w' hw => ?_) ?_
                        rotate_left
                        · (obtain ⟨q0, q1, q2, q3⟩ := hw; go_simp; try with_reducible rfl)
                        try simp only [Act.put, List.setIfInBounds_toArray, List.set_cons_zero, List.set_cons_succ]
                        refine wpT_pureD (v := ?_) (some 108) rfl rfl (by rfl) (fun w' => ?_) ?_
                        rotate_left
                        · (go_simp; try with_reducible rfl)
                        try simp only [Act.put, List.setIfInBounds_toArray, List.set_cons_zero, List.set_cons_succ]
                        refine wpT_pureD (v := ?_) (some 109) rfl rfl (by rfl) (fun w' => ?_) ?_
                        rotate_left
                        · (go_simp; try with_reducible rfl)
                        try simp only [Act.put, List.setIfInBounds_toArray, List.set_cons_zero, List.set_cons_succ]
                        refine wpT_pureD (v := ?_) (some 110) rfl rfl (by rfl) (fun w' => ?_) ?_
                        rotate_left
                        · (go_simp; try with_reducible rfl)
                        try simp only [Act.put, List.setIfInBounds_toArray, List.set_cons_zero, List.set_cons_succ]
                        refine wpT_pureD (v := ?_) (some 111) rfl rfl (by rfl) (fun w' => ?_) ?_
                        rotate_left
                        · (go_simp; try with_reducible rfl)
                        try simp only [Act.put, List.setIfInBounds_toArray, List.set_cons_zero, List.set_cons_succ]
                        refine wpT_readD (v := ?_) (some 112) rfl rfl (by rfl) (fun w' hw => ?_) ?_
                        rotate_left
                        · (obtain ⟨q0, q1, q2, q3⟩ := hw; go_simp; try with_reducible rfl)
                        try simp only [Act.put, List.setIfInBounds_toArray, List.set_cons_zero, List.set_cons_succ]
                        refine wpT_pureD (v := ?_) (some 113) rfl rfl (by rfl) (fun w' => ?_) ?_
                        rotate_left
                        · (go_simp; try with_reducible rfl)
                        try simp only [Act.put, List.setIfInBounds_toArray, List.set_cons_zero, List.set_cons_succ]
                        refine wpT_pureD (v := ?_) (some 114) rfl rfl (by rfl) (fun w' => ?_) ?_
                        rotate_left
                        · (go_simp; try with_reducible rfl)
                        try simp only [Act.put, List.setIfInBounds_toArray, List.set_cons_zero, List.set_cons_succ]
                        refine wpT_pureD (v := ?_) (some 115) rfl rfl (by rfl) (fun w' => ?_) ?_
                        rotate_left
                        · (go_simp; try with_reducible rfl)
                        try simp only [Act.put, List.setIfInBounds_toArray, List.set_cons_zero, List.set_cons_succ]
                        refine wpT_skipD (some 116) rfl rfl (by rfl) ?_
                        try simp only [Act.put, List.setIfInBounds_toArray, List.set_cons_zero, List.set_cons_succ]
                        refine wpT_skipD (some 117) rfl rfl (by rfl) ?_
                        try simp only [Act.put, List.setIfInBounds_toArray, List.set_cons_zero, List.set_cons_succ]
                        refine wpT_skipD (some 118) rfl rfl (by rfl) ?_
                        try simp only [Act.put, List.setIfInBounds_toArray, List.set_cons_zero, List.set_cons_succ]
                        refine wpT_pureD (v := ?_) (some 119) rfl rfl (by rfl) (fun w' => ?_) ?_
                        rotate_left
                        · (go_simp; try with_reducible rfl)
                        try simp only [Act.put, List.setIfInBounds_toArray, List.set_cons_zero, List.set_cons_succ]
                        refine wpT_pureD (v := ?_) (some 120) rfl rfl (by rfl) (fun w' => ?_) ?_
                        rotate_left
                        · (go_simp; try with_reducible rfl)
                        try simp only [Act.put, List.setIfInBounds_toArray, List.set_cons_zero, List.set_cons_succ]
                        refine wpT_skipD (some 121) rfl rfl (by rfl) ?_
                        try simp only [Act.put, List.setIfInBounds_toArray, List.set_cons_zero, List.set_cons_succ]
                        refine wpT_skipD (some 122) rfl rfl (by rfl) ?_
                        try simp only [Act.put, List.setIfInBounds_toArray, List.set_cons_zero, List.set_cons_succ]
                        refine wpT_skipD (some 123) rfl rfl (by rfl) ?_
                        try simp only [Act.put, List.setIfInBounds_toArray, List.set_cons_zero, List.set_cons_succ]
                        refine wpT_skipD (some 124) rfl rfl (by rfl) ?_
                        try simp only [Act.put, List.setIfInBounds_toArray, List.set_cons_zero, List.set_cons_succ]
                        refine wpT_skipD (some 125) rfl rfl (by rfl) ?_
                        try simp only [Act.put, List.setIfInBounds_toArray, List.set_cons_zero, List.set_cons_succ]
                        refine wpT_skipD (some 126) rfl rfl (by rfl) ?_
                        try simp only [Act.put, List.setIfInBounds_toArray, List.set_cons_zero, List.set_cons_succ]
                        refine wpT_skipD (some 127) rfl rfl (by rfl) ?_
                        try simp only [Act.put, List.setIfInBounds_toArray, List.set_cons_zero, List.set_cons_succ]
                        refine wpT_skipD (some 128) rfl rfl (by rfl) ?_
                        try simp only [Act.put, List.setIfInBounds_toArray, List.set_cons_zero, List.set_cons_succ]
                        refine wpT_skipD (some 129) rfl rfl (by rfl) ?_
                        try simp only [Act.put, List.setIfInBounds_toArray, List.set_cons_zero, List.set_cons_succ]
                        refine wpT_skipD (some 130) rfl rfl (by rfl) ?_
                        try simp only [Act.put, List.setIfInBounds_toArray, List.set_cons_zero, List.set_cons_succ]
                        refine wpT_pureD (v := ?_) (some 131) rfl rfl (by rfl) (fun w' => ?_) ?_
                        rotate_left
                        · (go_simp; try with_reducible rfl)
                        try simp only [Act.put, List.setIfInBounds_toArray, List.set_cons_zero, List.set_cons_succ]
                        refine wpT_end ?_
                        go_wp2_with fail
                        go_meet
                        refine ⟨congrArg Value.bool ?_, HC2.out.trans (Chg.refl _ _).drew⟩
                        rw [Bool.eq_iff_iff]; unfold rfB; simp; (try omega)
                      · skip
                        by_cases hE : r.ty = 3
                        · have g0 : (r.ty == 3) = true := beq_iff_eq.2 hE
                          refine wp_region_C (fun w' => w'.cell? ⟨Bd, 0, none⟩ = some (.int .i64 r.sec) ∧ w'.cell? ⟨Bd, 1, none⟩ = some (.int .u32 (r.at_ : Int)) ∧ w'.cell? ⟨Bd, 2, none⟩ = some (.int .i64 r.ty) ∧ w'.row? B = some (obA s)) [(0, 0), (1, 1), (2, 0), (3, 0), (4, 0), (5, 1), (6, 0), (7, 0), (8, 0), (9, 0), (10, 1), (11, 0), (12, 0), (13, 0), (14, 0), (15, 1), (16, 0), (17, 0), (18, 0), (19, 0), (20, 1), (21, 0), (22, 0), (23, 0), (24, 0), (25, 1), (26, 0), (27, 0), (28, 1), (29, 0), (30, 1), (31, 1), (32, 0), (33, 0), (34, 0)] rfl (by kernel_rfl) ?hSR4 ?hTR4
                          case hSR4 => exact ⟨e0.out, e1.out, e2.out, HRB.out⟩
                          refine wpT_pureD (v := ?_) (some 97) rfl rfl (by rfl) (fun w' => ?_) ?_
                          rotate_left
                          · (go_simp; try with_reducible rfl)
                          try simp only [Act.put, List.setIfInBounds_toArray, List.set_cons_zero, List.set_cons_succ]
                          refine wpT_readD (v := ?_) (some 98) rfl rfl (by rfl) (fun w' hw => ?_) ?_
                          rotate_left
                          · (obtain ⟨q0, q1, q2, q3⟩ := hw; go_simp; try with_reducible rfl)
                          try simp only [Act.put, List.setIfInBounds_toArray, List.set_cons_zero, List.set_cons_succ]
                          refine wpT_pureD (v := ?_) (some 99) rfl rfl (by rfl) (fun w' => ?_) ?_
                          rotate_left
                          · (go_simp; try with_reducible rfl)
                          try simp only [Act.put, List.setIfInBounds_toArray, List.set_cons_zero, List.set_cons_succ]
                          refine wpT_pureD (v := ?_) (some 100) rfl rfl (by rfl) (fun w' => ?_) ?_
                          rotate_left
                          · (go_simp; try with_reducible rfl)
                          try simp only [Act.put, List.setIfInBounds_toArray, List.set_cons_zero, List.set_cons_succ]
                          refine wpT_pureD (v := ?_) (some 101) rfl rfl (by rfl) (fun w' => ?_) ?_
                          rotate_left
                          · (go_simp; try with_reducible rfl)
                          try simp only [Act.put, List.setIfInBounds_toArray, List.set_cons_zero, List.set_cons_succ]
                          refine wpT_readD (v := ?_) (some 102) rfl rfl (by rfl) (fun w' hw => ?_) ?_
                          rotate_left
                          · (obtain ⟨q0, q1, q2, q3⟩ := hw; go_simp; try with_reducible rfl)
                          try simp only [Act.put, List.setIfInBounds_toArray, List.set_cons_zero, List.set_cons_succ]
                          refine wpT_pureD (v := ?_) (some 103) rfl rfl (by rfl) (fun w' => ?_) ?_
                          rotate_left
                          · (go_simp; try with_reducible rfl)
                          try simp only [Act.put, List.setIfInBounds_toArray, List.set_cons_zero, List.set_cons_succ]
                          refine wpT_pureD (v := ?_) (some 104) rfl rfl (by rfl) (fun w' => ?_) ?_
                          rotate_left
                          · (go_simp; try with_reducible rfl)
                          try simp only [Act.put, List.setIfInBounds_toArray, List.set_cons_zero, List.set_cons_succ]
                          refine wpT_pureD (v := ?_) (some 105) rfl rfl (by rfl) (fun w' => ?_) ?_
                          rotate_left
                          · (go_simp; try with_reducible rfl)
                          try simp only [Act.put, List.setIfInBounds_toArray, List.set_cons_zero, List.set_cons_succ]
                          refine wpT_pureD (v := ?_) (some 106) rfl rfl (by rfl) (fun w' => ?_) ?_
                          rotate_left
                          · (go_simp; try with_reducible rfl)
                          try simp only [Act.put, List.setIfInBounds_toArray, List.set_cons_zero, List.set_cons_succ]
                          refine wpT_readD (v := ?_) (some 107) rfl rfl (by rfl) (fun w' hw => ?_) ?_
                          rotate_left
                          · (obtain ⟨q0, q1, q2, q3⟩ := hw; go_simp; try with_reducible rfl)
                          try simp only [Act.put, List.setIfInBounds_toArray, List.set_cons_zero, List.set_cons_succ]
                          refine wpT_pureD (v := ?_) (some 108) rfl rfl (by rfl) (fun w' => ?_) ?_
                          rotate_left
                          · (go_simp; try with_reducible rfl)
                          try simp only [Act.put, List.setIfInBounds_toArray, List.set_cons_zero, List.set_cons_succ]
                          refine wpT_pureD (v := ?_) (some 109) rfl rfl (by rfl) (fun w' => ?_) ?_
                          rotate_left
                          · (go_simp; try with_reducible rfl)
                          try simp only [Act.put, List.setIfInBounds_toArray, List.set_cons_zero, List.set_cons_succ]
                          refine wpT_pureD (v := ?_) (some 110) rfl rfl (by rfl) (fun w' => ?_) ?_
                          rotate_left
                          · (go_simp; try with_reducible rfl)
                          try simp only [Act.put, List.setIfInBounds_toArray, List.set_cons_zero, List.set_cons_succ]
                          refine wpT_pureD (v := ?_) (some 111) rfl rfl (by rfl) (fun w' => ?_) ?_
                          rotate_left
                          · (go_simp; try with_reducible rfl)
                          try simp only [Act.put, List.setIfInBounds_toArray, List.set_cons_zero, List.set_cons_succ]
                          refine wpT_readD (v := ?_) (some 112) rfl rfl (by rfl) (fun w' hw => ?_) ?_
                          rotate_left
                          · (obtain ⟨q0, q1, q2, q3⟩ := hw; go_simp; try with_reducible rfl)
                          try simp only [Act.put, List.setIfInBounds_toArray, List.set_cons_zero, List.set_cons_succ]
                          refine wpT_pureD (v := ?_) (some 113) rfl rfl (by rfl) (fun w' => ?_) ?_
                          rotate_left
                          · (go_simp; try with_reducible rfl)
                          try simp only [Act.put, List.setIfInBounds_toArray, List.set_cons_zero, List.set_cons_succ]
                          refine wpT_pureD (v := ?_) (some 114) rfl rfl (by rfl) (fun w' => ?_) ?_
                          rotate_left
                          · (go_simp; try with_reducible rfl)
                          try simp only [Act.put, List.setIfInBounds_toArray, List.set_cons_zero, List.set_cons_succ]
                          refine wpT_pureD (v := ?_) (some 115) rfl rfl (by rfl) (fun w' => ?_) ?_
                          rotate_left
                          · (go_simp; try with_reducible rfl)
                          try simp only [Act.put, List.setIfInBounds_toArray, List.set_cons_zero, List.set_cons_succ]
                          refine wpT_pureD (v := ?_) (some 116) rfl rfl (by rfl) (fun w' => ?_) ?_
                          rotate_left
                          · (go_simp; try with_reducible rfl)
                          try simp only [Act.put, List.setIfInBounds_toArray, List.set_cons_zero, List.set_cons_succ]
                          refine wpT_readD (v := ?_) (some 117) rfl rfl (by rfl) (fun w' hw => ?_) ?_
                          rotate_left
                          · (obtain ⟨q0, q1, q2, q3⟩ := hw; go_simp; try with_reducible rfl)
                          try simp only [Act.put, List.setIfInBounds_toArray, List.set_cons_zero, List.set_cons_succ]
                          refine wpT_pureD (v := ?_) (some 118) rfl rfl (by rfl) (fun w' => ?_) ?_
                          rotate_left
                          · (go_simp; try with_reducible rfl)
                          try simp only [Act.put, List.setIfInBounds_toArray, List.set_cons_zero, List.set_cons_succ]
                          refine wpT_pureD (v := ?_) (some 119) rfl rfl (by rfl) (fun w' => ?_) ?_
                          rotate_left
                          · (go_simp; try with_reducible rfl)
                          try simp only [Act.put, List.setIfInBounds_toArray, List.set_cons_zero, List.set_cons_succ]
                          refine wpT_pureD (v := ?_) (some 120) rfl rfl (by rfl) (fun w' => ?_) ?_
                          rotate_left
                          · (go_simp; try with_reducible rfl)
                          try simp only [Act.put, List.setIfInBounds_toArray, List.set_cons_zero, List.set_cons_succ]
                          refine wpT_skipD (some 121) rfl rfl (by rfl) ?_
                          try simp only [Act.put, List.setIfInBounds_toArray, List.set_cons_zero, List.set_cons_succ]
                          refine wpT_skipD (some 122) rfl rfl (by rfl) ?_
                          try simp only [Act.put, List.setIfInBounds_toArray, List.set_cons_zero, List.set_cons_succ]
                          refine wpT_skipD (some 123) rfl rfl (by rfl) ?_
                          try simp only [Act.put, List.setIfInBounds_toArray, List.set_cons_zero, List.set_cons_succ]
                          refine wpT_skipD (some 124) rfl rfl (by rfl) ?_
                          try simp only [Act.put, List.setIfInBounds_toArray, List.set_cons_zero, List.set_cons_succ]
                          refine wpT_skipD (some 125) rfl rfl (by rfl) ?_
                          try simp only [Act.put, List.setIfInBounds_toArray, List.set_cons_zero, List.set_cons_succ]
                          refine wpT_skipD (some 126) rfl rfl (by rfl) ?_
                          try simp only [Act.put, List.setIfInBounds_toArray, List.set_cons_zero, List.set_cons_succ]
                          refine wpT_skipD (some 127) rfl rfl (by rfl) ?_
                          try simp only [Act.put, List.setIfInBounds_toArray, List.set_cons_zero, List.set_cons_succ]
                          refine wpT_skipD (some 128) rfl rfl (by rfl) ?_
                          try simp only [Act.put, List.setIfInBounds_toArray, List.set_cons_zero, List.set_cons_succ]
                          refine wpT_skipD (some 129) rfl rfl (by rfl) ?_
                          try simp only [Act.put, List.setIfInBounds_toArray, List.set_cons_zero, List.set_cons_succ]
                          refine wpT_skipD (some 130) rfl rfl (by rfl) ?_
                          try simp only [Act.put, List.setIfInBounds_toArray, List.set_cons_zero, List.set_cons_succ]
                          refine wpT_pureD (v := ?_) (some 131) rfl rfl (by rfl) (fun w' => ?_) ?_
                          rotate_left
                          · (go_simp; try with_reducible rfl)
                          try simp only [Act.put, List.setIfInBounds_toArray, List.set_cons_zero, List.set_cons_succ]
                          refine wpT_end ?_
                          go_wp2_with fail
                          go_meet
                          refine ⟨congrArg Value.bool ?_, HC2.out.trans (Chg.refl _ _).drew⟩
                          rw [Bool.eq_iff_iff]; unfold rfB; simp; (try omega)
                        · skip
                          have g0 : (r.ty == 3) = false := beq_eq_false_iff_ne.2 hE
                          have v1 : IntKind.u64.wrap (r.at_ : Int) = (r.at_ : Int) := u64id (by omega) (by have := HLR.out; omega)
                          have v2 : IntKind.u64.wrap ((r.at_ : Int) + 4) = ((r.at_ + 4 : Nat) : Int) := by rw [u64id (by omega) (by have := HLR.out; omega)]; omega
                          have v3 : IntKind.u64.wrap ((sizeO s r.sec : Nat) : Int) = (sizeO s r.sec : Int) := u64id (by omega) (by have := HZL.out r.sec; omega)
                          refine wp_region_C (fun w' => w'.cell? ⟨Bd, 0, none⟩ = some (.int .i64 r.sec) ∧ w'.cell? ⟨Bd, 1, none⟩ = some (.int .u32 (r.at_ : Int)) ∧ w'.cell? ⟨Bd, 2, none⟩ = some (.int .i64 r.ty) ∧ w'.row? B = some (obA s)) [(0, 0), (1, 1), (2, 0), (3, 0), (4, 0), (5, 1), (6, 0), (7, 0), (8, 0), (9, 0), (10, 1), (11, 0), (12, 0), (13, 0), (14, 0), (15, 1), (16, 0), (17, 0), (18, 0), (19, 0), (20, 1), (21, 0), (22, 0), (23, 0), (24, 0), (25, 1), (26, 0), (27, 0), (28, 1), (29, 0), (30, 1), (31, 2), (32, 0), (33, 0), (34, 0)] rfl (by kernel_rfl) ?hSRz ?hTRz
                          case hSRz => exact ⟨e0.out, e1.out, e2.out, HRB.out⟩
                          refine wpT_pureD (v := ?_) (some 97) rfl rfl (by rfl) (fun w' => ?_) ?_
                          rotate_left
                          · (go_simp; try with_reducible rfl)
                          try simp only [Act.put, List.setIfInBounds_toArray, List.set_cons_zero, List.set_cons_succ]
                          refine wpT_readD (v := ?_) (some 98) rfl rfl (by rfl) (fun w' hw => ?_) ?_
                          rotate_left
                          · (obtain ⟨q0, q1, q2, q3⟩ := hw; go_simp; try with_reducible rfl)
                          try simp only [Act.put, List.setIfInBounds_toArray, List.set_cons_zero, List.set_cons_succ]
                          refine wpT_pureD (v := ?_) (some 99) rfl rfl (by rfl) (fun w' => ?_) ?_
                          rotate_left
                          · (go_simp; try with_reducible rfl)
                          try simp only [Act.put, List.setIfInBounds_toArray, List.set_cons_zero, List.set_cons_succ]
                          refine wpT_pureD (v := ?_) (some 100) rfl rfl (by rfl) (fun w' => ?_) ?_
                          rotate_left
                          · (go_simp; try with_reducible rfl)
                          try simp only [Act.put, List.setIfInBounds_toArray, List.set_cons_zero, List.set_cons_succ]
                          refine wpT_pureD (v := ?_) (some 101) rfl rfl (by rfl) (fun w' => ?_) ?_
                          rotate_left
                          · (go_simp; try with_reducible rfl)
                          try simp only [Act.put, List.setIfInBounds_toArray, List.set_cons_zero, List.set_cons_succ]
                          refine wpT_readD (v := ?_) (some 102) rfl rfl (by rfl) (fun w' hw => ?_) ?_
                          rotate_left
                          · (obtain ⟨q0, q1, q2, q3⟩ := hw; go_simp; try with_reducible rfl)
                          try simp only [Act.put, List.setIfInBounds_toArray, List.set_cons_zero, List.set_cons_succ]
                          refine wpT_pureD (v := ?_) (some 103) rfl rfl (by rfl) (fun w' => ?_) ?_
                          rotate_left
                          · (go_simp; try with_reducible rfl)
                          try simp only [Act.put, List.setIfInBounds_toArray, List.set_cons_zero, List.set_cons_succ]
                          refine wpT_pureD (v := ?_) (some 104) rfl rfl (by rfl) (fun w' => ?_) ?_
                          rotate_left
                          · (go_simp; try with_reducible rfl)
                          try simp only [Act.put, List.setIfInBounds_toArray, List.set_cons_zero, List.set_cons_succ]
                          refine wpT_pureD (v := ?_) (some 105) rfl rfl (by rfl) (fun w' => ?_) ?_
                          rotate_left
                          · (go_simp; try with_reducible rfl)
                          try simp only [Act.put, List.setIfInBounds_toArray, List.set_cons_zero, List.set_cons_succ]
                          refine wpT_pureD (v := ?_) (some 106) rfl rfl (by rfl) (fun w' => ?_) ?_
                          rotate_left
                          · (go_simp; try with_reducible rfl)
                          try simp only [Act.put, List.setIfInBounds_toArray, List.set_cons_zero, List.set_cons_succ]
                          refine wpT_readD (v := ?_) (some 107) rfl rfl (by rfl) (fun w' hw => ?_) ?_
                          rotate_left
                          · (obtain ⟨q0, q1, q2, q3⟩ := hw; go_simp; try with_reducible rfl)
                          try simp only [Act.put, List.setIfInBounds_toArray, List.set_cons_zero, List.set_cons_succ]
                          refine wpT_pureD (v := ?_) (some 108) rfl rfl (by rfl) (fun w' => ?_) ?_
                          rotate_left
                          · (go_simp; try with_reducible rfl)
                          try simp only [Act.put, List.setIfInBounds_toArray, List.set_cons_zero, List.set_cons_succ]
                          refine wpT_pureD (v := ?_) (some 109) rfl rfl (by rfl) (fun w' => ?_) ?_
                          rotate_left
                          · (go_simp; try with_reducible rfl)
                          try simp only [Act.put, List.setIfInBounds_toArray, List.set_cons_zero, List.set_cons_succ]
                          refine wpT_pureD (v := ?_) (some 110) rfl rfl (by rfl) (fun w' => ?_) ?_
                          rotate_left
                          · (go_simp; try with_reducible rfl)
                          try simp only [Act.put, List.setIfInBounds_toArray, List.set_cons_zero, List.set_cons_succ]
                          refine wpT_pureD (v := ?_) (some 111) rfl rfl (by rfl) (fun w' => ?_) ?_
                          rotate_left
                          · (go_simp; try with_reducible rfl)
                          try simp only [Act.put, List.setIfInBounds_toArray, List.set_cons_zero, List.set_cons_succ]
                          refine wpT_readD (v := ?_) (some 112) rfl rfl (by rfl) (fun w' hw => ?_) ?_
                          rotate_left
                          · (obtain ⟨q0, q1, q2, q3⟩ := hw; go_simp; try with_reducible rfl)
                          try simp only [Act.put, List.setIfInBounds_toArray, List.set_cons_zero, List.set_cons_succ]
                          refine wpT_pureD (v := ?_) (some 113) rfl rfl (by rfl) (fun w' => ?_) ?_
                          rotate_left
                          · (go_simp; try with_reducible rfl)
                          try simp only [Act.put, List.setIfInBounds_toArray, List.set_cons_zero, List.set_cons_succ]
                          refine wpT_pureD (v := ?_) (some 114) rfl rfl (by rfl) (fun w' => ?_) ?_
                          rotate_left
                          · (go_simp; try with_reducible rfl)
                          try simp only [Act.put, List.setIfInBounds_toArray, List.set_cons_zero, List.set_cons_succ]
                          refine wpT_pureD (v := ?_) (some 115) rfl rfl (by rfl) (fun w' => ?_) ?_
                          rotate_left
                          · (go_simp; try with_reducible rfl)
                          try simp only [Act.put, List.setIfInBounds_toArray, List.set_cons_zero, List.set_cons_succ]
                          refine wpT_pureD (v := ?_) (some 116) rfl rfl (by rfl) (fun w' => ?_) ?_
                          rotate_left
                          · (go_simp; try with_reducible rfl)
                          try simp only [Act.put, List.setIfInBounds_toArray, List.set_cons_zero, List.set_cons_succ]
                          refine wpT_readD (v := ?_) (some 117) rfl rfl (by rfl) (fun w' hw => ?_) ?_
                          rotate_left
                          · (obtain ⟨q0, q1, q2, q3⟩ := hw; go_simp; try with_reducible rfl)
                          try simp only [Act.put, List.setIfInBounds_toArray, List.set_cons_zero, List.set_cons_succ]
                          refine wpT_pureD (v := ?_) (some 118) rfl rfl (by rfl) (fun w' => ?_) ?_
                          rotate_left
                          · (go_simp; try with_reducible rfl)
                          try simp only [Act.put, List.setIfInBounds_toArray, List.set_cons_zero, List.set_cons_succ]
                          refine wpT_pureD (v := ?_) (some 119) rfl rfl (by rfl) (fun w' => ?_) ?_
                          rotate_left
                          · (go_simp; try with_reducible rfl)
                          try simp only [Act.put, List.setIfInBounds_toArray, List.set_cons_zero, List.set_cons_succ]
                          refine wpT_pureD (v := ?_) (some 120) rfl rfl (by rfl) (fun w' => ?_) ?_
                          rotate_left
                          · (go_simp; try with_reducible rfl)
                          try simp only [Act.put, List.setIfInBounds_toArray, List.set_cons_zero, List.set_cons_succ]
                          refine wpT_pureD (v := ?_) (some 121) rfl rfl (by rfl) (fun w' => ?_) ?_
                          rotate_left
                          · (go_simp; try with_reducible rfl)
                          try simp only [Act.put, List.setIfInBounds_toArray, List.set_cons_zero, List.set_cons_succ]
                          refine wpT_readD (v := ?_) (some 122) rfl rfl (by rfl) (fun w' hw => ?_) ?_
                          rotate_left
                          · (obtain ⟨q0, q1, q2, q3⟩ := hw; go_simp; try with_reducible rfl)
                          try simp only [Act.put, List.setIfInBounds_toArray, List.set_cons_zero, List.set_cons_succ]
                          refine wpT_pureD (v := ?_) (some 123) rfl rfl (by rfl) (fun w' => ?_) ?_
                          rotate_left
                          · (go_simp; try with_reducible rfl)
                          try simp only [Act.put, List.setIfInBounds_toArray, List.set_cons_zero, List.set_cons_succ]
                          refine wpT_pureD (v := ?_) (some 124) rfl rfl (by rfl) (fun w' => ?_) ?_
                          rotate_left
                          · (go_simp; try with_reducible rfl)
                          try simp only [Act.put, List.setIfInBounds_toArray, List.set_cons_zero, List.set_cons_succ]
                          refine wpT_load_part a53 (obA s).toList (some 125) _ rfl rfl rfl (by rfl) rfl rfl (fun w' hw j u hu => by rw [Nat.zero_add, row_cell hw.2.2.2, ← Array.getElem?_toList]; exact hu) ?_
                          try simp only [Act.put, List.setIfInBounds_toArray, List.set_cons_zero, List.set_cons_succ]
                          try simp only [Act.put, List.setIfInBounds_toArray, List.set_cons_zero, List.set_cons_succ]
                          refine wpT_pureD (v := ?_) (some 126) rfl rfl (by rfl) (fun w' => ?_) ?_
                          rotate_left
                          · (go_simp; try with_reducible rfl)
                          try simp only [Act.put, List.setIfInBounds_toArray, List.set_cons_zero, List.set_cons_succ]
                          refine wpT_readD (v := ?_) (some 127) rfl rfl (by rfl) (fun w' hw => ?_) ?_
                          rotate_left
                          · (obtain ⟨q0, q1, q2, q3⟩ := hw; go_simp; try with_reducible rfl)
                          try simp only [Act.put, List.setIfInBounds_toArray, List.set_cons_zero, List.set_cons_succ]
                          refine wpT_eff rfl (by rfl) (fun K hK => ?_)
                          go_wp2_with fail
                          refine (size_any s r.sec HNC.out HND.out _).mono ?_
                          rintro e w5 ⟨rfl, hc5⟩
                          have HC5 := Lib.hid hc5
                          clear hc5
                          go_wp2_with fail
                          refine hK _ _ ⟨keepc e0.out HC5.out (by simp), keepc e1.out HC5.out (by simp), keepc e2.out HC5.out (by simp), (HC5.out.row (row_lt HRB.out) (by simp)).trans HRB.out⟩ ?_
                          clear hK K
                          try simp only [Act.put, List.setIfInBounds_toArray, List.set_cons_zero, List.set_cons_succ]
                          refine wpT_pureD (v := ?_) (some 129) rfl rfl (by rfl) (fun w' => ?_) ?_
                          rotate_left
                          · (go_simp; try with_reducible rfl)
                          try simp only [Act.put, List.setIfInBounds_toArray, List.set_cons_zero, List.set_cons_succ]
                          refine wpT_pureD (v := ?_) (some 130) rfl rfl (by rfl) (fun w' => ?_) ?_
                          rotate_left
                          · (go_simp; try with_reducible rfl)
                          try simp only [Act.put, List.setIfInBounds_toArray, List.set_cons_zero, List.set_cons_succ]
                          refine wpT_pureD (v := ?_) (some 131) rfl rfl (by rfl) (fun w' => ?_) ?_
                          rotate_left
                          · (go_simp; try with_reducible rfl)
                          try simp only [Act.put, List.setIfInBounds_toArray, List.set_cons_zero, List.set_cons_succ]
                          refine wpT_end ?_
                          go_wp2_with fail
                          go_meet
                          refine ⟨congrArg Value.bool ?_, (HC2.out.trans (Chg.refl _ _).drew).trans HC5.out⟩
                          rw [Bool.eq_iff_iff]; unfold rfB; simp; (try omega)
              case rest =>
                obtain ⟨rfl, hcw⟩ := hcut
                have HCW := Lib.hid hcw
                clear hcw
                cases hb : rfB s r
                case false =>
                  have HBD := Lib.hid hb
                  clear hb
                  go_wp2
                  go_ret
                  exact ⟨by rw [show rightB s = false by unfold rightB; rw [all_bad HD.out HBD.out, Bool.and_false]]; rfl, HCY.out.trans HCW.out⟩
                case true =>
                  have HBD := Lib.hid hb
                  clear hb
                  rw [show (!true) = false from rfl]
                  go_wp2_with fail
                  go_roundw
                  case rel => exact ⟨k3 + 1, HKN.out, by rw [HW.out], fun j x hj hx => by
                    by_cases e : j = k3
                    · subst e; rw [HD.out] at hx; obtain rfl := Option.some.inj hx; exact HBD.out
                    · exact HALL3.out j x (by omega) hx, HCW.out⟩
                  case measure => rw [HW.out]; simp only [intOf, Int.toNat_natCast]; have := HKN.out; omega
            · have dI : ¬ (k3 : Int) < (s.nr : Int) := by omega
              have HR : Hid (s.R.all (rfB s) = true) := Lib.hid (all_good fun j x hx => HALL3.out j x (by
                have := (List.getElem?_eq_some_iff.1 hx).1
                have := HS.out.Rn
                omega) hx)
              clear hkn
              go_wp2
              go_ret
              exact ⟨by rw [show rightB s = true by unfold rightB; rw [HB.out, HF.out, HR.out]; rfl]; rfl, HCY.out.trans HCH3.out⟩
end Go.Proofs.L
