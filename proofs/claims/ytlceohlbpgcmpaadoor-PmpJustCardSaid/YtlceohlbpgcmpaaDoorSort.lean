/- Proved here: lemmas and contracts (Sort) for the laws of this seat, for all values of the stated types; no further condition. -/
import Derived.Test.YtlceohlbpgcmpaaDoorOpenTwo
open Go Go.RowKit Go.Lib
namespace Go.Proofs.L
attribute [local irreducible] wpT
theorem wpT_skipD {P : Program} {Q : Exit → Act → World → Prop} {ops : Array Oper} {S : World → Prop} {r : List (Nat × Nat)} {a : Act} {w : World} {i c : Nat} {o : Oper} (d : Option Tmp) (ho : ops[i]? = some o) (hd : o.dst = d) (hw : Region.wanted o (yielded ops a.tmps) = false)
    (h : wpT P ops Q S r (a.put d undef) w) : wpT P ops Q S ((i, c) :: r) a w := by subst hd; exact wpT_skip ho hw h
/-! the sort of numbers in a row -/
def u64L (M : List Nat) : List Value := M.map fun x : Nat => .int .u64 (x : Int)
theorem u64L_get (M : List Nat) (tl : List Value) (i : Nat) (h : i < M.length) : (u64L M ++ tl).toArray[i]? = some (.int .u64 ((M.getD i 0 : Nat) : Int)) := by
  simp [u64L, h, List.getElem?_append_left]
theorem u64L_set (M : List Nat) (tl : List Value) (i x : Nat) (h : i < M.length) : (u64L M ++ tl).toArray.setIfInBounds i (.int .u64 (x : Int)) = (u64L (M.set i x) ++ tl).toArray := by
  simp only [u64L, List.setIfInBounds_toArray]
  rw [List.set_append_left _ _ (by simpa using h), List.map_set]
theorem getD_set' (M : List Nat) (i j x : Nat) (h : i < M.length) : (M.set i x).getD j 0 = if j = i then x else M.getD j 0 := by
  rw [List.getD_eq_getElem?_getD, List.getElem?_set, List.getD_eq_getElem?_getD]
  by_cases hj : j = i
  · subst hj; simp [h]
  · rw [if_neg (Ne.symm hj), if_neg hj]
theorem mem_getD (M : List Nat) (x : Nat) : x ∈ M ↔ ∃ j, j < M.length ∧ M.getD j 0 = x := by
  rw [List.mem_iff_getElem]
  constructor
  · rintro ⟨j, hj, rfl⟩
    exact ⟨j, hj, by simp [List.getD_eq_getElem?_getD, hj]⟩
  · rintro ⟨j, hj, rfl⟩
    exact ⟨j, hj, by simp [List.getD_eq_getElem?_getD, hj]⟩
def swapN (M : List Nat) (k : Nat) : List Nat := (M.set k (M.getD (k - 1) 0)).set (k - 1) (M.getD k 0)
theorem swapN_len (M : List Nat) (k : Nat) : (swapN M k).length = M.length := by simp [swapN]
theorem swapN_get (M : List Nat) (k j : Nat) (h : k < M.length) : (swapN M k).getD j 0 = if j = k - 1 then M.getD k 0 else if j = k then M.getD (k - 1) 0 else M.getD j 0 := by
  unfold swapN
  rw [getD_set' _ _ _ _ (by simp; omega), getD_set' _ _ _ _ h]
theorem swapN_mem (M : List Nat) (k : Nat) (h : k < M.length) (x : Nat) : x ∈ swapN M k ↔ x ∈ M := by
  rw [mem_getD, mem_getD, swapN_len]
  constructor
  · rintro ⟨j, hj, rfl⟩
    rw [swapN_get M k j h]
    split
    · exact ⟨k, h, rfl⟩
    · split
      · exact ⟨k - 1, by omega, rfl⟩
      · exact ⟨j, hj, rfl⟩
  · rintro ⟨j, hj, rfl⟩
    by_cases h1 : j = k
    · exact ⟨k - 1, by omega, by rw [swapN_get M k _ h, if_pos rfl, h1]⟩
    · by_cases h2 : j = k - 1
      · exact ⟨k, h, by rw [swapN_get M k _ h]; split; · (have : k = j := by omega); exact absurd this.symm h1
                        · rw [if_pos rfl, h2]⟩
      · exact ⟨j, hj, by rw [swapN_get M k _ h, if_neg h2, if_neg h1]⟩
def SortTo (M : List Nat) (k : Nat) : Prop := ∀ a b, a < b → b < k → M.getD a 0 ≤ M.getD b 0
def InsAt (M : List Nat) (k j : Nat) : Prop := (∀ a b, a < b → b ≤ k → a ≠ j → b ≠ j → M.getD a 0 ≤ M.getD b 0) ∧ ∀ b, j < b → b ≤ k → M.getD j 0 ≤ M.getD b 0
theorem InsAt.start {M : List Nat} {k : Nat} (h : SortTo M k) : InsAt M k k := ⟨fun a b h1 h2 _ h4 => h a b h1 (by omega), fun b h1 h2 => by omega⟩
theorem InsAt.done {M : List Nat} {k j : Nat} (h : InsAt M k j) (hj : j = 0 ∨ ¬ M.getD j 0 < M.getD (j - 1) 0) (hjk : j ≤ k) : SortTo M (k + 1) := fun a b h1 h2 => by
  by_cases ha : a = j
  · subst ha; exact h.2 b h1 (by omega)
  · by_cases hb : b = j
    · subst hb
      rcases hj with h0 | h0
      · omega
      · by_cases hc : a = b - 1
        · subst hc; omega
        · have := h.1 a (b - 1) (by omega) (by omega) (by omega) (by omega); omega
    · exact h.1 a b h1 (by omega) ha hb
theorem InsAt.swap {M : List Nat} {k j : Nat} (h : InsAt M k j) (hj : 0 < j) (hlt : M.getD j 0 < M.getD (j - 1) 0) (hjk : j ≤ k) (hk : k < M.length) : InsAt (swapN M j) k (j - 1) := by
  have hjl : j < M.length := by omega
  constructor
  · intro a b h1 h2 h3 h4
    rw [swapN_get M j a hjl, swapN_get M j b hjl, if_neg h3, if_neg h4]
    by_cases ha : a = j
    · subst ha
      rw [if_pos rfl, if_neg (by omega)]
      exact h.1 (a - 1) b (by omega) h2 (by omega) (by omega)
    · rw [if_neg ha]
      by_cases hb : b = j
      · subst hb
        rw [if_pos rfl]
        exact h.1 a (b - 1) (by omega) (by omega) (by omega) (by omega)
      · rw [if_neg hb]
        exact h.1 a b h1 h2 ha hb
  · intro b h1 h2
    rw [swapN_get M j _ hjl, if_pos rfl, swapN_get M j b hjl, if_neg (by omega)]
    by_cases hb : b = j
    · subst hb; rw [if_pos rfl]; omega
    · rw [if_neg hb]
      exact h.2 b (by omega) h2
set_option maxRecDepth 100000 in
set_option maxHeartbeats 1600000 in
theorem sort_any {w : World} {g n cap : Nat} {M : List Nat} {tl : List Value} (hr : w.row? g = some (u64L M ++ tl).toArray) (hn : M.length = n) (hn6 : n < 1000000) (hM : ∀ x ∈ M, x ≤ 4294967296) (hc : n ≤ cap) :
    Calls Tryd.prog 22 #[.slice (some ⟨g, 0, none⟩) n cap] w fun e w' => e = .returned (.tuple #[]) ∧ ∃ M', w'.row? g = some (u64L M' ++ tl).toArray ∧ M'.length = n ∧ (∀ x, x ∈ M' ↔ x ∈ M) ∧ SortTo M' n ∧ Chg [g] w w' := by
  have HR := Lib.hid hr
  have HN := Lib.hid hn
  have HN6 := Lib.hid hn6
  have HM := Lib.hid hM
  clear hr hn hn6 hM
  go_enter Tryd.func22, Tryd.ntmps22
  go_wp2_with fail
  go_loopw [6, 2, 3] (fun i _ _ wr => ∃ k : Nat, k ≤ n ∧ i = .int .i64 k ∧ ∃ M', wr.row? g = some (u64L M' ++ tl).toArray ∧ M'.length = n ∧ (∀ x, x ∈ M' ↔ x ∈ M) ∧ SortTo M' k ∧ Chg [g] w wr) (fun i _ _ _ => n - (intOf i).toNat)
  case atStart => exact ⟨0, by omega, rfl, M, HR.out, HN.out, fun _ => Iff.rfl, fun a b h1 h2 => absurd h2 (by omega), Chg.refl _ _⟩
  case round =>
    obtain ⟨k, hk, rfl, M1, hr1, hl1, hm1, hs1, hc1⟩ := hrel
    have HR1 := Lib.hid hr1
    have HL1 := Lib.hid hl1
    have HM1 := Lib.hid hm1
    have HS1 := Lib.hid hs1
    have HC1 := Lib.hid hc1
    clear hr1 hl1 hm1 hs1 hc1
    by_cases hk2 : k < n
    · have HK := Lib.hid hk2
      have HW : Hid (wrap64 ((k : Int) + 1) = ((k + 1 : Nat) : Int)) := Lib.hid (wrap1 k (by have := HN6.out; omega))
      have dk : decide ((k : Int) < (n : Int)) = true := by rw [decide_eq_true_eq]; omega
      go_wp2_with fail
      go_loopw [3] (fun j wr' => ∃ k2 : Nat, k2 ≤ k ∧ j = .int .i64 k2 ∧ ∃ M', wr'.row? g = some (u64L M' ++ tl).toArray ∧ M'.length = n ∧ (∀ x, x ∈ M' ↔ x ∈ M) ∧ InsAt M' k k2 ∧ Chg [g] w wr') (fun j _ => (intOf j).toNat)
      case atStart => exact ⟨k, by omega, rfl, M1, HR1.out, HL1.out, HM1.out, InsAt.start HS1.out, HC1.out⟩
      case round =>
        obtain ⟨k2, hk2', rfl, M2, hr2, hl2, hm2, hs2, hc2⟩ := hrel
        have HKK := Lib.hid hk2'
        have HR2 := Lib.hid hr2
        have HL2 := Lib.hid hl2
        have HM2 := Lib.hid hm2
        have HS2 := Lib.hid hs2
        have HC2 := Lib.hid hc2
        clear hr2 hl2 hm2 hs2 hc2
        by_cases h0 : k2 = 0
        · subst h0
          have g0 : decide ((0 : Int) < ((0 : Nat) : Int)) = false := by decide
          go_upto_region 4 with (fail)
          refine wp_region_C (fun w' => Chg [] wr w') [(0, 0), (1, 0), (2, 0), (3, 0), (4, 0), (5, 0), (6, 1), (7, 0), (8, 0), (9, 0), (10, 0), (11, 1), (12, 0), (13, 0)] rfl (by kernel_rfl) ?hSA ?hTA
          case hSA => exact (Chg.refl _ _).drew
          refine wpT_pureD (v := ?_) (some 10) rfl rfl (by rfl) (fun w' => ?_) ?_
          rotate_left
          · (go_simp; try with_reducible rfl)
          try simp only [Act.put, List.setIfInBounds_toArray, List.set_cons_zero, List.set_cons_succ]
          refine wpT_pureD (v := ?_) (some 11) rfl rfl (by rfl) (fun w' => ?_) ?_
          rotate_left
          · (go_simp; try with_reducible rfl)
          try simp only [Act.put, List.setIfInBounds_toArray, List.set_cons_zero, List.set_cons_succ]
          refine wpT_pureD (v := ?_) (some 12) rfl rfl (by rfl) (fun w' => ?_) ?_
          rotate_left
          · (go_simp; try with_reducible rfl)
          try simp only [Act.put, List.setIfInBounds_toArray, List.set_cons_zero, List.set_cons_succ]
          refine wpT_skipD (some 13) rfl rfl (by rfl) ?_
          try simp only [Act.put, List.setIfInBounds_toArray, List.set_cons_zero, List.set_cons_succ]
          refine wpT_skipD (some 14) rfl rfl (by rfl) ?_
          try simp only [Act.put, List.setIfInBounds_toArray, List.set_cons_zero, List.set_cons_succ]
          refine wpT_skipD (some 15) rfl rfl (by rfl) ?_
          try simp only [Act.put, List.setIfInBounds_toArray, List.set_cons_zero, List.set_cons_succ]
          refine wpT_skipD (some 16) rfl rfl (by rfl) ?_
          try simp only [Act.put, List.setIfInBounds_toArray, List.set_cons_zero, List.set_cons_succ]
          refine wpT_skipD (some 17) rfl rfl (by rfl) ?_
          try simp only [Act.put, List.setIfInBounds_toArray, List.set_cons_zero, List.set_cons_succ]
          refine wpT_skipD (some 18) rfl rfl (by rfl) ?_
          try simp only [Act.put, List.setIfInBounds_toArray, List.set_cons_zero, List.set_cons_succ]
          refine wpT_skipD (some 19) rfl rfl (by rfl) ?_
          try simp only [Act.put, List.setIfInBounds_toArray, List.set_cons_zero, List.set_cons_succ]
          refine wpT_skipD (some 20) rfl rfl (by rfl) ?_
          try simp only [Act.put, List.setIfInBounds_toArray, List.set_cons_zero, List.set_cons_succ]
          refine wpT_skipD (some 21) rfl rfl (by rfl) ?_
          try simp only [Act.put, List.setIfInBounds_toArray, List.set_cons_zero, List.set_cons_succ]
          refine wpT_skipD (some 22) rfl rfl (by rfl) ?_
          try simp only [Act.put, List.setIfInBounds_toArray, List.set_cons_zero, List.set_cons_succ]
          refine wpT_pureD (v := ?_) (some 23) rfl rfl (by rfl) (fun w' => ?_) ?_
          rotate_left
          · (go_simp; try with_reducible rfl)
          try simp only [Act.put, List.setIfInBounds_toArray, List.set_cons_zero, List.set_cons_succ]
          refine wpT_end ?_
          have HSD := Lib.hid (HS2.out.done (.inl rfl) (by omega))
          go_wp2
          case roundEnd => exact ⟨⟨k + 1, HK.out, by rw [HW.out], M2, HR2.out, HL2.out, HM2.out, HSD.out, HC2.out.drew⟩, by rw [HW.out]; simp only [intOf, Int.toNat_natCast]; have := HK.out; omega⟩
        · obtain ⟨j, hj⟩ : ∃ j, j = k2 - 1 := ⟨_, rfl⟩
          have HJ : Hid (k2 = j + 1) := Lib.hid (by omega)
          obtain ⟨u, hu⟩ : ∃ u, u = M2.getD (k2) 0 := ⟨_, rfl⟩
          obtain ⟨v, hv⟩ : ∃ u, u = M2.getD j 0 := ⟨_, rfl⟩
          have c1 : wr.cell? ⟨g, k2, none⟩ = some (.int .u64 (u : Int)) := by rw [row_cell HR2.out, u64L_get _ _ _ (by have := HL2.out; omega), hu]
          have c0 : wr.cell? ⟨g, j, none⟩ = some (.int .u64 (v : Int)) := by rw [row_cell HR2.out, u64L_get _ _ _ (by have := HL2.out; omega), hv]
          have fz1 : wr.frozen? ⟨g, k2, none⟩ = false := row_free HR2.out _
          have fz0 : wr.frozen? ⟨g, j, none⟩ = false := row_free HR2.out _
          have hne : ¬ j = k2 := by omega
          have hne2 : ¬ k2 = j := by omega
          have HU := Lib.hid hu
          have HV := Lib.hid hv
          have hjn : k2 < n := by have := HK.out; have := HKK.out; omega
          have hjn0 : j < n := by omega
          have g0 : decide ((0 : Int) < (k2 : Int)) = true := by rw [decide_eq_true_eq]; omega
          have gk0 : 0 < k2 := by omega
          have gw : wrap64 ((k2 : Int) - 1) = (j : Int) := by rw [IntWalk.wrap64_in _ ⟨by omega, by have := HN6.out; omega⟩]; omega
          have gw2 : IntKind.i64.wrap ((k2 : Int) - 1) = (j : Int) := by rw [IntKind.wrap_i64]; have := HN6.out; omega
          clear hu hv hj h0
          by_cases hlt : u < v
          · have d1 : decide ((u : Int) < (v : Int)) = true := by rw [decide_eq_true_eq]; omega
            go_upto_region 4 with (fail)
            refine wp_region_C (fun w' => w'.cell? ⟨g, k2, none⟩ = some (.int .u64 (u : Int)) ∧ w'.cell? ⟨g, j, none⟩ = some (.int .u64 (v : Int))) [(0, 0), (1, 0), (2, 0), (3, 0), (4, 0), (5, 0), (6, 1), (7, 0), (8, 0), (9, 0), (10, 0), (11, 1), (12, 0), (13, 0)] rfl (by kernel_rfl) ?hSB ?hTB
            case hSB => exact ⟨c1, c0⟩
            refine wpT_pureD (v := ?_) (some 10) rfl rfl (by rfl) (fun w' => ?_) ?_
            rotate_left
            · (go_simp; try with_reducible rfl)
            try simp only [Act.put, List.setIfInBounds_toArray, List.set_cons_zero, List.set_cons_succ]
            refine wpT_pureD (v := ?_) (some 11) rfl rfl (by rfl) (fun w' => ?_) ?_
            rotate_left
            · (go_simp; try with_reducible rfl)
            try simp only [Act.put, List.setIfInBounds_toArray, List.set_cons_zero, List.set_cons_succ]
            refine wpT_pureD (v := ?_) (some 12) rfl rfl (by rfl) (fun w' => ?_) ?_
            rotate_left
            · (go_simp; try with_reducible rfl)
            try simp only [Act.put, List.setIfInBounds_toArray, List.set_cons_zero, List.set_cons_succ]
            refine wpT_pureD (v := ?_) (some 13) rfl rfl (by rfl) (fun w' => ?_) ?_
            rotate_left
            · (go_simp; try with_reducible rfl)
            try simp only [Act.put, List.setIfInBounds_toArray, List.set_cons_zero, List.set_cons_succ]
            refine wpT_pureD (v := ?_) (some 14) rfl rfl (by rfl) (fun w' => ?_) ?_
            rotate_left
            · (go_simp; try with_reducible rfl)
            try simp only [Act.put, List.setIfInBounds_toArray, List.set_cons_zero, List.set_cons_succ]
            refine wpT_pureD (v := ?_) (some 15) rfl rfl (by rfl) (fun w' => ?_) ?_
            rotate_left
            · (go_simp; try with_reducible rfl)
            try simp only [Act.put, List.setIfInBounds_toArray, List.set_cons_zero, List.set_cons_succ]
            refine wpT_readD (v := ?_) (some 16) rfl rfl (by rfl) (fun w' hw => ?_) ?_
            rotate_left
            · (obtain ⟨q0, q1⟩ := hw; go_simp; try with_reducible rfl)
            try simp only [Act.put, List.setIfInBounds_toArray, List.set_cons_zero, List.set_cons_succ]
            refine wpT_pureD (v := ?_) (some 17) rfl rfl (by rfl) (fun w' => ?_) ?_
            rotate_left
            · (go_simp; try with_reducible rfl)
            try simp only [Act.put, List.setIfInBounds_toArray, List.set_cons_zero, List.set_cons_succ]
            refine wpT_pureD (v := ?_) (some 18) rfl rfl (by rfl) (fun w' => ?_) ?_
            rotate_left
            · (go_simp; try with_reducible rfl)
            try simp only [Act.put, List.setIfInBounds_toArray, List.set_cons_zero, List.set_cons_succ]
            refine wpT_pureD (v := ?_) (some 19) rfl rfl (by rfl) (fun w' => ?_) ?_
            rotate_left
            · (go_simp; try with_reducible rfl)
            try simp only [Act.put, List.setIfInBounds_toArray, List.set_cons_zero, List.set_cons_succ]
            refine wpT_pureD (v := ?_) (some 20) rfl rfl (by rfl) (fun w' => ?_) ?_
            rotate_left
            · (go_simp; try with_reducible rfl)
            try simp only [Act.put, List.setIfInBounds_toArray, List.set_cons_zero, List.set_cons_succ]
            refine wpT_readD (v := ?_) (some 21) rfl rfl (by rfl) (fun w' hw => ?_) ?_
            rotate_left
            · (obtain ⟨q0, q1⟩ := hw; go_simp; try with_reducible rfl)
            try simp only [Act.put, List.setIfInBounds_toArray, List.set_cons_zero, List.set_cons_succ]
            refine wpT_pureD (v := ?_) (some 22) rfl rfl (by rfl) (fun w' => ?_) ?_
            rotate_left
            · (go_simp; try with_reducible rfl)
            try simp only [Act.put, List.setIfInBounds_toArray, List.set_cons_zero, List.set_cons_succ]
            refine wpT_pureD (v := ?_) (some 23) rfl rfl (by rfl) (fun w' => ?_) ?_
            rotate_left
            · (go_simp; try with_reducible rfl)
            try simp only [Act.put, List.setIfInBounds_toArray, List.set_cons_zero, List.set_cons_succ]
            refine wpT_end ?_
            have HSW : Hid (InsAt (swapN M2 k2) k j) := Lib.hid (by
              have := HS2.out.swap (by have := HJ.out; omega) (by rw [show k2 - 1 = j by have := HJ.out; omega, ← HU.out, ← HV.out]; exact hlt) HKK.out (by have := HL2.out; have := HK.out; omega)
              rwa [show k2 - 1 = j by have := HJ.out; omega] at this)
            go_upto_region 6 with (fail)
            refine wp_region_C (fun w' => w'.cell? ⟨g, k2, none⟩ = some (.int .u64 (u : Int)) ∧ w'.cell? ⟨g, j, none⟩ = some (.int .u64 (v : Int))) [(0, 0), (1, 0), (2, 0), (3, 0), (4, 0), (5, 0), (6, 0), (7, 0), (8, 0), (9, 1), (10, 0), (11, 0), (12, 0), (13, 1), (14, 0), (15, 3), (16, 0), (17, 3)] rfl (by kernel_rfl) ?hSD ?hTD
            case hSD => exact ⟨c1, c0⟩
            refine wpT_pureD (v := ?_) (some 26) rfl rfl (by rfl) (fun w' => ?_) ?_
            rotate_left
            · (go_simp; try with_reducible rfl)
            try simp only [Act.put, List.setIfInBounds_toArray, List.set_cons_zero, List.set_cons_succ]
            refine wpT_pureD (v := ?_) (some 27) rfl rfl (by rfl) (fun w' => ?_) ?_
            rotate_left
            · (go_simp; try with_reducible rfl)
            try simp only [Act.put, List.setIfInBounds_toArray, List.set_cons_zero, List.set_cons_succ]
            refine wpT_pureD (v := ?_) (some 28) rfl rfl (by rfl) (fun w' => ?_) ?_
            rotate_left
            · (go_simp; try with_reducible rfl)
            try simp only [Act.put, List.setIfInBounds_toArray, List.set_cons_zero, List.set_cons_succ]
            refine wpT_pureD (v := ?_) (some 29) rfl rfl (by rfl) (fun w' => ?_) ?_
            rotate_left
            · (go_simp; try with_reducible rfl)
            try simp only [Act.put, List.setIfInBounds_toArray, List.set_cons_zero, List.set_cons_succ]
            refine wpT_pureD (v := ?_) (some 30) rfl rfl (by rfl) (fun w' => ?_) ?_
            rotate_left
            · (go_simp; try with_reducible rfl)
            try simp only [Act.put, List.setIfInBounds_toArray, List.set_cons_zero, List.set_cons_succ]
            refine wpT_pureD (v := ?_) (some 31) rfl rfl (by rfl) (fun w' => ?_) ?_
            rotate_left
            · (go_simp; try with_reducible rfl)
            try simp only [Act.put, List.setIfInBounds_toArray, List.set_cons_zero, List.set_cons_succ]
            refine wpT_pureD (v := ?_) (some 32) rfl rfl (by rfl) (fun w' => ?_) ?_
            rotate_left
            · (go_simp; try with_reducible rfl)
            try simp only [Act.put, List.setIfInBounds_toArray, List.set_cons_zero, List.set_cons_succ]
            refine wpT_pureD (v := ?_) (some 33) rfl rfl (by rfl) (fun w' => ?_) ?_
            rotate_left
            · (go_simp; try with_reducible rfl)
            try simp only [Act.put, List.setIfInBounds_toArray, List.set_cons_zero, List.set_cons_succ]
            refine wpT_pureD (v := ?_) (some 34) rfl rfl (by rfl) (fun w' => ?_) ?_
            rotate_left
            · (go_simp; try with_reducible rfl)
            try simp only [Act.put, List.setIfInBounds_toArray, List.set_cons_zero, List.set_cons_succ]
            refine wpT_readD (v := ?_) (some 35) rfl rfl (by rfl) (fun w' hw => ?_) ?_
            rotate_left
            · (obtain ⟨q0, q1⟩ := hw; go_simp; try with_reducible rfl)
            try simp only [Act.put, List.setIfInBounds_toArray, List.set_cons_zero, List.set_cons_succ]
            refine wpT_pureD (v := ?_) (some 36) rfl rfl (by rfl) (fun w' => ?_) ?_
            rotate_left
            · (go_simp; try with_reducible rfl)
            try simp only [Act.put, List.setIfInBounds_toArray, List.set_cons_zero, List.set_cons_succ]
            refine wpT_pureD (v := ?_) (some 37) rfl rfl (by rfl) (fun w' => ?_) ?_
            rotate_left
            · (go_simp; try with_reducible rfl)
            try simp only [Act.put, List.setIfInBounds_toArray, List.set_cons_zero, List.set_cons_succ]
            refine wpT_pureD (v := ?_) (some 38) rfl rfl (by rfl) (fun w' => ?_) ?_
            rotate_left
            · (go_simp; try with_reducible rfl)
            try simp only [Act.put, List.setIfInBounds_toArray, List.set_cons_zero, List.set_cons_succ]
            refine wpT_readD (v := ?_) (some 39) rfl rfl (by rfl) (fun w' hw => ?_) ?_
            rotate_left
            · (obtain ⟨q0, q1⟩ := hw; go_simp; try with_reducible rfl)
            try simp only [Act.put, List.setIfInBounds_toArray, List.set_cons_zero, List.set_cons_succ]
            refine wpT_pureD (v := ?_) (some 40) rfl rfl (by rfl) (fun w' => ?_) ?_
            rotate_left
            · (go_simp; try with_reducible rfl)
            try simp only [Act.put, List.setIfInBounds_toArray, List.set_cons_zero, List.set_cons_succ]
            refine wpT_brk rfl (by rfl) (fun K hK => ?_)
            go_wp2_with fail
            refine wpT_pureD (v := ?_) (some 41) rfl rfl (by rfl) (fun w' => ?_) ?_
            rotate_left
            · (go_simp; try with_reducible rfl)
            try simp only [Act.put, List.setIfInBounds_toArray, List.set_cons_zero, List.set_cons_succ]
            refine wpT_brk rfl (by rfl) (fun K hK => ?_)
            go_wp2_with fail
            refine wpT_end ?_
            have HNR : Hid ((((wr.setCell ⟨g, k2, none⟩ (.int .u64 (v : Int))).setCell ⟨g, j, none⟩ (.int .u64 (u : Int))).drew.drew).row? g = some (u64L (swapN M2 k2) ++ tl).toArray) := Lib.hid (by
              have hl := HL2.out
              rw [row_drew, row_drew, row_setCell_same, row_setCell_same, HR2.out]
              simp only [Option.map_some]
              rw [u64L_set _ _ _ _ (by omega), u64L_set _ _ _ _ (by simp; omega), HU.out, HV.out]
              unfold swapN
              rw [show k2 - 1 = j by have := HJ.out; omega])
            have HNC : Hid (Chg [g] w ((wr.setCell ⟨g, k2, none⟩ (.int .u64 (v : Int))).setCell ⟨g, j, none⟩ (.int .u64 (u : Int))).drew.drew) := Lib.hid (((HC2.out.setCell (.inl (by simp)) _).setCell (.inl (by simp)) _).drew.drew)
            go_wp2_with fail
            refine ⟨⟨j, by have := HKK.out; have := HJ.out; omega, by first | rfl | (rw [gw]) | (rw [gw2]), swapN M2 k2, HNR.out, (swapN_len _ _).trans HL2.out, fun x => (swapN_mem M2 k2 (by have := HL2.out; omega) x).trans (HM2.out x), HSW.out, HNC.out⟩, by simp only [intOf]; have := HJ.out; omega⟩
          · have d1 : decide ((u : Int) < (v : Int)) = false := by rw [decide_eq_false_iff_not]; omega
            have HSD := Lib.hid (HS2.out.done (.inr (by rw [show k2 - 1 = j by have := HJ.out; omega, ← HU.out, ← HV.out]; exact hlt)) HKK.out)
            go_upto_region 4 with (fail)
            refine wp_region_C (fun w' => w'.cell? ⟨g, k2, none⟩ = some (.int .u64 (u : Int)) ∧ w'.cell? ⟨g, j, none⟩ = some (.int .u64 (v : Int))) [(0, 0), (1, 0), (2, 0), (3, 0), (4, 0), (5, 0), (6, 1), (7, 0), (8, 0), (9, 0), (10, 0), (11, 1), (12, 0), (13, 0)] rfl (by kernel_rfl) ?hSC ?hTC
            case hSC => exact ⟨c1, c0⟩
            refine wpT_pureD (v := ?_) (some 10) rfl rfl (by rfl) (fun w' => ?_) ?_
            rotate_left
            · (go_simp; try with_reducible rfl)
            try simp only [Act.put, List.setIfInBounds_toArray, List.set_cons_zero, List.set_cons_succ]
            refine wpT_pureD (v := ?_) (some 11) rfl rfl (by rfl) (fun w' => ?_) ?_
            rotate_left
            · (go_simp; try with_reducible rfl)
            try simp only [Act.put, List.setIfInBounds_toArray, List.set_cons_zero, List.set_cons_succ]
            refine wpT_pureD (v := ?_) (some 12) rfl rfl (by rfl) (fun w' => ?_) ?_
            rotate_left
            · (go_simp; try with_reducible rfl)
            try simp only [Act.put, List.setIfInBounds_toArray, List.set_cons_zero, List.set_cons_succ]
            refine wpT_pureD (v := ?_) (some 13) rfl rfl (by rfl) (fun w' => ?_) ?_
            rotate_left
            · (go_simp; try with_reducible rfl)
            try simp only [Act.put, List.setIfInBounds_toArray, List.set_cons_zero, List.set_cons_succ]
            refine wpT_pureD (v := ?_) (some 14) rfl rfl (by rfl) (fun w' => ?_) ?_
            rotate_left
            · (go_simp; try with_reducible rfl)
            try simp only [Act.put, List.setIfInBounds_toArray, List.set_cons_zero, List.set_cons_succ]
            refine wpT_pureD (v := ?_) (some 15) rfl rfl (by rfl) (fun w' => ?_) ?_
            rotate_left
            · (go_simp; try with_reducible rfl)
            try simp only [Act.put, List.setIfInBounds_toArray, List.set_cons_zero, List.set_cons_succ]
            refine wpT_readD (v := ?_) (some 16) rfl rfl (by rfl) (fun w' hw => ?_) ?_
            rotate_left
            · (obtain ⟨q0, q1⟩ := hw; go_simp; try with_reducible rfl)
            try simp only [Act.put, List.setIfInBounds_toArray, List.set_cons_zero, List.set_cons_succ]
            refine wpT_pureD (v := ?_) (some 17) rfl rfl (by rfl) (fun w' => ?_) ?_
            rotate_left
            · (go_simp; try with_reducible rfl)
            try simp only [Act.put, List.setIfInBounds_toArray, List.set_cons_zero, List.set_cons_succ]
            refine wpT_pureD (v := ?_) (some 18) rfl rfl (by rfl) (fun w' => ?_) ?_
            rotate_left
            · (go_simp; try with_reducible rfl)
            try simp only [Act.put, List.setIfInBounds_toArray, List.set_cons_zero, List.set_cons_succ]
            refine wpT_pureD (v := ?_) (some 19) rfl rfl (by rfl) (fun w' => ?_) ?_
            rotate_left
            · (go_simp; try with_reducible rfl)
            try simp only [Act.put, List.setIfInBounds_toArray, List.set_cons_zero, List.set_cons_succ]
            refine wpT_pureD (v := ?_) (some 20) rfl rfl (by rfl) (fun w' => ?_) ?_
            rotate_left
            · (go_simp; try with_reducible rfl)
            try simp only [Act.put, List.setIfInBounds_toArray, List.set_cons_zero, List.set_cons_succ]
            refine wpT_readD (v := ?_) (some 21) rfl rfl (by rfl) (fun w' hw => ?_) ?_
            rotate_left
            · (obtain ⟨q0, q1⟩ := hw; go_simp; try with_reducible rfl)
            try simp only [Act.put, List.setIfInBounds_toArray, List.set_cons_zero, List.set_cons_succ]
            refine wpT_pureD (v := ?_) (some 22) rfl rfl (by rfl) (fun w' => ?_) ?_
            rotate_left
            · (go_simp; try with_reducible rfl)
            try simp only [Act.put, List.setIfInBounds_toArray, List.set_cons_zero, List.set_cons_succ]
            refine wpT_pureD (v := ?_) (some 23) rfl rfl (by rfl) (fun w' => ?_) ?_
            rotate_left
            · (go_simp; try with_reducible rfl)
            try simp only [Act.put, List.setIfInBounds_toArray, List.set_cons_zero, List.set_cons_succ]
            refine wpT_end ?_
            go_wp2
            case roundEnd => exact ⟨⟨k + 1, HK.out, by rw [HW.out], M2, HR2.out, HL2.out, HM2.out, HSD.out, HC2.out.drew⟩, by rw [HW.out]; simp only [intOf, Int.toNat_natCast]; have := HK.out; omega⟩
    · obtain rfl : k = n := by omega
      have dk : decide ((k : Int) < (k : Int)) = false := by simp
      go_wp2
      go_end0
      exact ⟨rfl, M1, HR1.out, HL1.out, HM1.out, HS1.out, HC1.out⟩
end Go.Proofs.L
