/- Proved here: lemmas and contracts (Lc4) for the laws of this seat, for all values of the stated types; no further condition. -/
import Derived.Test.YtjbplncpcgfaoaaLc5
open Go Go.RowKit Go.Lib Go.Maps
namespace Go.Proofs.L
attribute [local irreducible] wpT
/-! LinkCalls: the walk -/
theorem info64 : (Try.prog.info? 64).map (fun i => (i.zero, i.size, i.bytes)) = some (some (.agg #[.int .u32 0, .int .u32 0, .int .i64 0]), 3, 16) := by kernel_rfl
theorem u32addN {a b q : Nat} (h : a + b = q) (h2 : q < 4294967296) : IntKind.u32.wrap ((a : Int) + (b : Int)) = (q : Int) := by rw [u32id (by omega) (by omega)]; omega
set_option maxRecDepth 100000 in
set_option maxHeartbeats 16000000 in
theorem calls_walk {W : World} {p1 p2 : Option Addr} {b1 o1 n1 c1 b2 o2 n2 c2 bias : Nat} {T1 T2 : List By} (hS1 : BysAt W b1 o1 T1) (hn1 : T1.length = n1) (hp1 : 0 < n1 → p1 = some ⟨b1, o1, none⟩) (hq1 : p1 = none → n1 = 0 ∧ c1 = 0)
    (hS2 : BysAt W b2 o2 T2) (hn2 : T2.length = n2) (hp2 : 0 < n2 → p2 = some ⟨b2, o2, none⟩) (hq2 : p2 = none → n2 = 0 ∧ c2 = 0) (hl1 : n1 ≤ 2000000) (hl2 : n2 ≤ 2000000) (hbias : bias < 4294967296) :
    Calls Try.prog 6 #[.slice p1 n1 c1, .slice p2 n2 c2, .int .u32 (bias : Int)] W fun e w' => e = .returned (.bool true) ∧ Chg [] W w' := by
  have HS1 : Hid (∀ V, Chg [] W V → BysAt V b1 o1 T1) := Lib.hid fun V hV => hS1.keep hV
  have HS2 : Hid (∀ V, Chg [] W V → BysAt V b2 o2 T2) := Lib.hid fun V hV => hS2.keep hV
  have HN1 := Lib.hid hn1
  have HN2 := Lib.hid hn2
  have HP1 := Lib.hid hp1
  have HP2 := Lib.hid hp2
  have HQ1 := Lib.hid hq1
  have HQ2 := Lib.hid hq2
  have HL1 := Lib.hid hl1
  have HL2 := Lib.hid hl2
  have HBI := Lib.hid hbias
  clear hS1 hn1 hp1 hq1 hS2 hn2 hp2 hq2 hl1 hl2 hbias
  go_enter Try.func6, Try.ntmps6
  go_wp2_with fail
  refine (fit_all W).mono ?_
  rintro e w1 ⟨rfl, hc1⟩
  have HC1 := Lib.hid hc1
  clear hc1
  obtain ⟨S0, hS0⟩ : ∃ S, S = w1.heap.size := ⟨_, rfl⟩
  have HS0 := Lib.hid hS0
  clear hS0
  go_upto_region 4 with (fail)
  go_wp2_with (at_builtin; refine (app_srcV rfl (some 30) rfl _ _ 59 36 _ 24 rfl Try.underlying59 info36v rfl (by decide) S0 (.slice none 0 0) 0 [] rfl (World.ownsRow_nil _ _ _ _) p1 n1 c1 (slV T1) rfl (by unfold slV; rw [List.length_map]; exact HN1.out) HQ1.out (fun ad h j u hu => by
      unfold slV at hu
      rw [List.getElem?_map] at hu
      cases ht : T1[j]? with
      | none => rw [ht] at hu; cases hu
      | some t =>
        rw [ht] at hu
        obtain rfl := Option.some.inj hu
        have h0 := HP1.out (by have := (List.getElem?_eq_some_iff.1 ht).1; have := HN1.out; omega)
        rw [h] at h0
        obtain rfl := Option.some.inj h0
        rw [addr_at]
        exact (HS1.out w1 HC1.out j t ht).1) (slV_one T1) (by have := HL1.out; omega) (by rw [HS0.out]; exact Nat.le_refl _) ?_))
  intro v2 w2 hx1 hx2 hx3
  rw [List.nil_append, Nat.zero_add] at hx1
  have HX1 := Lib.hid hx1
  have HC2 : Hid (Chg [] w1 w2) := Lib.hid (chg_grown (Chg.refl _ _) hx2 (fun k hk => by cases hk))
  clear hx1 hx2 hx3
  go_wp2_with (at_builtin; refine (app_srcV rfl (some 32) rfl _ _ 59 36 _ 24 rfl Try.underlying59 info36v rfl (by decide) S0 v2 n1 (slV T1) rfl HX1.out p2 n2 c2 (slV T2) rfl (by unfold slV; rw [List.length_map]; exact HN2.out) HQ2.out (fun ad h j u hu => by
      unfold slV at hu
      rw [List.getElem?_map] at hu
      cases ht : T2[j]? with
      | none => rw [ht] at hu; cases hu
      | some t =>
        rw [ht] at hu
        obtain rfl := Option.some.inj hu
        have h0 := HP2.out (by have := (List.getElem?_eq_some_iff.1 ht).1; have := HN2.out; omega)
        rw [h] at h0
        obtain rfl := Option.some.inj h0
        rw [addr_at]
        exact (HS2.out w2 (HC1.out.trans HC2.out) j t ht).1) (slV_one T2) (by have := HL1.out; have := HL2.out; omega) (by have := HC2.out.size; rw [HS0.out]; omega) ?_))
  intro v3 w3 hx1 hx2 hx3
  obtain ⟨N, hN⟩ : ∃ N, N = n1 + n2 := ⟨_, rfl⟩
  obtain ⟨A, hA⟩ : ∃ A, A = T1 ++ T2 := ⟨_, rfl⟩
  have HX3 : Hid (w3.ownsRow S0 36 1 v3 N (slV A)) := Lib.hid (by rw [hN, hA]; unfold slV at *; rw [List.map_append]; exact hx1)
  have HC3 : Hid (Chg [] w1 w3) := Lib.hid (chg_grown HC2.out hx2 (fun k hk => by rw [← HS0.out]; exact (HX1.out.lt k hk).1))
  have HAN : Hid (A.length = N) := Lib.hid (by rw [hN, hA, List.length_append, HN1.out, HN2.out])
  have HNL : Hid (N ≤ 4000000) := Lib.hid (by have := HL1.out; have := HL2.out; omega)
  have HAE := Lib.hid hA
  have HNE := Lib.hid hN
  have HAT : Hid (∀ V, Chg [] W V → ∀ t ∈ A, ByOk V t) := Lib.hid fun V hV t ht => by
    rw [hA] at ht
    rcases List.mem_append.1 ht with h | h
    · obtain ⟨j, hj⟩ := List.mem_iff_getElem?.1 h
      exact (HS1.out V hV j t hj).2
    · obtain ⟨j, hj⟩ := List.mem_iff_getElem?.1 h
      exact (HS2.out V hV j t hj).2
  obtain ⟨p3, c3, rfl, hp3⟩ := own_form HX3.out
  have HP3 := Lib.hid hp3
  clear hx1 hx2 hx3 hA hN hp3 HX1 HC2
  go_wp2_with fail
  go_loopw [34, 7] (fun i v wr => ∃ j : Nat, j ≤ N ∧ i = .int .i64 (j : Int) ∧ v = .int .i64 (sumB (A.take j) : Int) ∧ sumB (A.take j) ≤ 3000 ∧ (∀ t ∈ A.take j, t.n % 4 = 0) ∧ wr = w3) (fun i _ _ => N - (intOf i).toNat)
  case atStart => exact ⟨0, Nat.zero_le _, rfl, by rw [List.take_zero]; rfl, by rw [List.take_zero]; decide, (fun t ht => by rw [List.take_zero] at ht; cases ht), rfl⟩
  case round =>
    obtain ⟨j, hj, rfl, rfl, hs, hm4, rfl⟩ := hrel
    have HJ := Lib.hid hj
    have HSM := Lib.hid hs
    have HM4 := Lib.hid hm4
    clear hj hs hm4
    obtain ⟨x, hx⟩ : ∃ x, x = sumB (A.take j) := ⟨_, rfl⟩
    rw [← hx] at HSM ⊢
    have HXX := Lib.hid hx
    clear hx
    by_cases hjn : j < N
    · skip
      have HJN := Lib.hid hjn
      have dJ : (j : Int) < (N : Int) := by omega
      obtain ⟨g3, rfl, hg3⟩ := HP3.out (by omega)
      obtain ⟨t, ht⟩ : ∃ t, A[j]? = some t := ⟨_, List.getElem?_eq_getElem (by have := HAN.out; omega)⟩
      have hcl : wr.cell? ⟨g3, j, none⟩ = some (.slice t.p t.n t.c) := cellsAt HX3.out hg3 j _ (by unfold slV; rw [List.getElem?_map, ht]; rfl)
      have htl : t.n ≤ 2000000 := (HAT.out wr (HC1.out.trans HC3.out) t (List.mem_of_getElem? ht)).2.2.2.2
      have HT := Lib.hid ht
      have HTL := Lib.hid htl
      obtain ⟨y, hy⟩ : ∃ y, y = x + (4 + t.n) := ⟨_, rfl⟩
      have wa : wrap64 (4 + (t.n : Int)) = 4 + (t.n : Int) := IntWalk.wrap64_in _ ⟨by omega, by omega⟩
      have wb : wrap64 ((x : Int) + (4 + (t.n : Int))) = (y : Int) := by have := HSM.out; rw [IntWalk.wrap64_in _ ⟨by omega, by omega⟩]; omega
      have HWJ : Hid (wrap64 ((j : Int) + 1) = ((j + 1 : Nat) : Int)) := Lib.hid (w64addN (b := 1) rfl (by have := HNL.out; omega))
      have HY := Lib.hid hy
      clear ht htl hy hjn
      obtain ⟨r, hr⟩ : ∃ r, r = t.n % 4 := ⟨_, rfl⟩
      have e1 : (t.n : Int).tmod 4 = (r : Int) := by rw [Int.tmod_eq_emod_of_nonneg (by omega)]; omega
      have e2 : (t.n : Int) % 4 = (r : Int) := by omega
      have HR := Lib.hid hr
      clear hr
      by_cases hy3 : 3000 < y
      · have dY : (3000 : Int) < (y : Int) := by omega
        clear hy3
        go_wp2
        go_ret
        exact ⟨rfl, HC1.out.trans HC3.out⟩
      · have dY : ¬ (3000 : Int) < (y : Int) := by omega
        by_cases hr0 : r = 0
        · have dR : (r : Int) = 0 := by omega
          have HS3 : Hid (sumB (A.take (j + 1)) = y) := Lib.hid (by rw [sumB_take HT.out, ← HXX.out, HY.out])
          have HM5 : Hid (∀ t ∈ A.take (j + 1), t.n % 4 = 0) := Lib.hid (fun u hu => by
            rw [List.take_add_one, HT.out] at hu
            rcases List.mem_append.1 hu with h | h
            · exact HM4.out u h
            · obtain rfl := List.mem_singleton.1 h
              rw [← HR.out]; exact hr0)
          have HY3 : Hid (y ≤ 3000) := Lib.hid (by omega)
          clear hy3 hr0
          go_wp2_with fail
          case roundEnd => exact ⟨⟨j + 1, HJN.out, by rw [HWJ.out], by rw [HS3.out]; exact congrArg (Value.int .i64) wb, by rw [HS3.out]; exact HY3.out, HM5.out, by trivial⟩, by rw [HWJ.out]; simp only [intOf, Int.toNat_natCast]; have := HJN.out; omega⟩
        · have dR : ¬ (r : Int) = 0 := by omega
          clear hy3
          go_wp2
          go_ret
          exact ⟨rfl, HC1.out.trans HC3.out⟩
    · have hjN : j = N := by have := HJ.out; omega
      have dJ : ¬ (j : Int) < (N : Int) := by omega
      have HSA : Hid (sumB A ≤ 3000) := Lib.hid (by
        have h := HSM.out
        rw [HXX.out, hjN, List.take_of_length_le (by rw [HAN.out]; exact Nat.le_refl _)] at h
        exact h)
      have HMA : Hid (∀ t ∈ A, t.n % 4 = 0) := Lib.hid (by
        have h := HM4.out
        rwa [hjN, List.take_of_length_le (by rw [HAN.out]; exact Nat.le_refl _)] at h)
      clear hjn hjN
      go_upto_region 11 with (fail)
      have HN8 := Lib.hid (show N = n1 + n2 from HNE.out)
      by_cases h0 : n1 = 0
      · subst h0
        go_wp2
        go_ret
        exact ⟨rfl, HC1.out.trans HC3.out⟩
      by_cases h8 : 8 < n1
      · have i0 : ¬ (n1 : Int) = 0 := by omega
        have i8 : (8 : Int) < (n1 : Int) := by omega
        go_wp2
        go_ret
        exact ⟨rfl, HC1.out.trans HC3.out⟩
      by_cases h2 : n1 < n2
      · have i0 : ¬ (n1 : Int) = 0 := by omega
        have i8 : ¬ (8 : Int) < (n1 : Int) := by omega
        have i2 : (n1 : Int) < (n2 : Int) := by omega
        go_wp2
        go_ret
        exact ⟨rfl, HC1.out.trans HC3.out⟩
      have i0 : ¬ (n1 : Int) = 0 := by omega
      have i8 : ¬ (8 : Int) < (n1 : Int) := by omega
      have i2 : ¬ (n1 : Int) < (n2 : Int) := by omega
      have HB1 : Hid (1 ≤ n1 ∧ n1 ≤ 8 ∧ n2 ≤ n1) := Lib.hid ⟨by omega, by omega, by omega⟩
      go_upto_region 13 with (fail)
      clear i0 i8 i2 h0 h8 h2
      obtain ⟨q, hq⟩ : ∃ q, q = bias % 16384 / 4 * 4 := ⟨_, rfl⟩
      obtain ⟨q0, hq0⟩ : ∃ q, q = bias % 16384 := ⟨_, rfl⟩
      have e1 : (bias : Int).tmod 16384 = (q0 : Int) := by rw [Int.tmod_eq_emod_of_nonneg (by omega)]; omega
      have e2 : (bias : Int) % 16384 = (q0 : Int) := by omega
      have e3 : bits .andNot .u32 (q0 : Int) 3 = (q : Int) := by rw [hq, ← hq0]; exact andNot3 q0 (by omega)
      obtain ⟨B, hB⟩ : ∃ B, B = 2147483648 + q := ⟨_, rfl⟩
      have e4 : IntKind.u32.wrap (2147483648 + (q : Int)) = (B : Int) := by rw [u32id (by omega) (by omega)]; omega
      have e5 : (2147483648 + (q : Int)) % 4294967296 = (B : Int) := by omega
      have HQB : Hid (B = 2147483648 + q ∧ q < 16384) := Lib.hid ⟨hB, by omega⟩
      clear hq hq0 hB
      go_upto_block 2 with (fail)
      clear e1 e2 e3 e4 e5
      obtain ⟨w4, hw4⟩ : ∃ w4, w4 = wr := ⟨_, rfl⟩
      obtain rfl := hw4
      obtain ⟨S1, hS1⟩ : ∃ S, S = w4.heap.size := ⟨_, rfl⟩
      have HS1' := Lib.hid hS1
      have HC4 : Hid (Chg [] W w4) := Lib.hid (HC1.out.trans HC3.out)
      clear hS1
      go_wp2_with fail
      go_loopw [73, 10] (fun i v wr => ∃ (j : Nat) (L : List Ob), j ≤ n1 ∧ i = .int .i64 (j : Int) ∧ L.length = j ∧ LsQ wr S1 n1 T1 T2 v L ∧ Chg [] w4 wr) (fun i _ _ => n1 - (intOf i).toNat)
      case atStart => exact ⟨0, [], Nat.zero_le _, rfl, rfl, ⟨World.ownsRow_nil _ _ _ _, fun k s hk => by simp at hk, fun gb hgb => by cases hgb⟩, Chg.refl _ _⟩
      case round =>
        obtain ⟨j, L, hj, rfl, hlen, hls, hch⟩ := hrel
        have HJ := Lib.hid hj
        have HLN := Lib.hid hlen
        have HLS := Lib.hid hls
        have HCH := Lib.hid hch
        clear hj hlen hls hch
        by_cases hjn : j < n1
        · have HJN := Lib.hid hjn
          have dJ : (j : Int) < (n1 : Int) := by omega
          obtain rfl := HP1.out (by omega)
          obtain ⟨t, ht⟩ : ∃ t, T1[j]? = some t := ⟨_, List.getElem?_eq_getElem (by have := HN1.out; omega)⟩
          have h2 := (HS1.out wr (HC4.out.trans HCH.out) j t ht).1
          have HTO : Hid (∀ V, Chg [] W V → ByOk V t) := Lib.hid fun V hV => (HS1.out V hV j t ht).2
          have HT : Hid (T1.getD j zBy = t) := Lib.hid (by rw [List.getD_eq_getElem?_getD, ht]; rfl)
          have h8 := HB1.out.2.1
          have e1 := w64c j (by omega)
          have e2 := u8c j (by omega)
          have hcv := conv_nmC wr j
          have HWJ : Hid (wrap64 ((j : Int) + 1) = ((j + 1 : Nat) : Int)) := Lib.hid (w64addN (b := 1) rfl (by have := HB1.out.2.1; omega))
          clear ht h8
          go_upto_region 19 with (fail)
          obtain ⟨X, hX⟩ : ∃ X, X = wr.alloc (.cells #[.int .u8 (97 + (j : Int))] 5) := ⟨_, rfl⟩
          rw [← hX]
          have HCX : Hid (Chg [] w4 X ∧ wr.heap.size < X.heap.size) := Lib.hid (by rw [hX]; exact ⟨HCH.out.alloc _, by simp⟩)
          have HCWX : Hid (Chg [] wr X) := Lib.hid (by rw [hX]; exact (Chg.refl _ _).alloc _)
          have hcx := keepc h2 HCWX.out (by simp)
          have hcx2 : (X.alloc (.cells #[.int .u8 0, .int .u8 0, .int .u8 0, .int .u8 0] 5)).cell? ⟨b1, o1 + j, none⟩ = some (.slice t.p t.n t.c) := keepc hcx ((Chg.refl [] X).alloc _) (by simp)
          have HTX := Lib.hid (HTO.out X (HC4.out.trans HCX.out.1))
          clear hX h2 e1 e2 hcv
          go_wp2_with (at_builtin; refine (app_srcV rfl (some 86) rfl _ _ 36 5 (.int .u8 0) 1 rfl Try.underlying36 info5 rfl (by decide) X.heap.size (.slice (some ⟨X.heap.size, 0, none⟩) 4 4) 4 [.int .u8 0, .int .u8 0, .int .u8 0, .int .u8 0] rfl (own_new (Nat.le_refl _) rfl (by decide)) t.p t.n t.c (u8L t.L) rfl (by unfold u8L; rw [List.length_map]; exact HTX.out.1) HTX.out.2.2.1 (fun ad h k u hu => by
              unfold u8L at hu
              rw [List.getElem?_map] at hu
              cases hk : t.L[k]? with
              | none => rw [hk] at hu; cases hu
              | some x =>
                rw [hk] at hu
                obtain rfl := Option.some.inj hu
                have h0 := HTX.out.2.1 (by have := (List.getElem?_eq_some_iff.1 hk).1; have := HTX.out.1; omega)
                rw [h] at h0
                obtain rfl := Option.some.inj h0
                rw [addr_at]
                exact keepc (HTX.out.2.2.2.1 k x hk).1 ((Chg.refl [] X).alloc _) (by simp)) (natU_one .u8 t.L) (by have := HTX.out.2.2.2.2; omega) (by simp) ?_))
          intro v5 w5 hx1 hx2 hx3
          have hx4 : w5.ownsRow X.heap.size 5 1 v5 (4 + t.n) (u8L ([0, 0, 0, 0] ++ t.L)) := hx1
          obtain ⟨p5, cc, rfl, hp5⟩ := own_form hx4
          obtain ⟨g, rfl, hg⟩ := hp5 (by omega)
          have HCA : Hid (U8At w5 g 0 ([0, 0, 0, 0] ++ t.L)) := Lib.hid (own_u8C hx4 hg (fun x hx => by
            rcases List.mem_append.1 hx with h | h
            · simp at h; omega
            · obtain ⟨k, hk⟩ := List.mem_iff_getElem?.1 h
              exact (HTX.out.2.2.2.1 k x hk).2))
          have HG : Hid (X.heap.size ≤ g ∧ g < w5.heap.size) := Lib.hid (hx4.lt g hg)
          have HC5 : Hid (Chg [] X w5) := Lib.hid (chg_grown ((Chg.refl [] X).alloc _) hx2 (fun k hk => by cases hk; exact Nat.le_refl _))
          clear hx1 hx2 hx3 hx4 hg hp5 hcx hcx2
          go_upto_region 20 with (first | (refine wpList_store_new a53 _ _ rfl rfl rfl rfl rfl rfl rfl rfl ?_))
          obtain ⟨Y, hY⟩ : ∃ Y, Y = (w5.alloc (.cells #[.string (nmC j), .int .i64 0, .int .u32 4] 55)).alloc (.cells #[.slice (some ⟨g, 0, none⟩) (4 + t.n) cc, .slice none 0 0, .int .u32 0, .slice (some ⟨w5.heap.size, 0, none⟩) 1 1, .slice none 0 0] 53) := ⟨_, rfl⟩
          obtain ⟨gd, hgd⟩ : ∃ b, b = w5.heap.size := ⟨_, rfl⟩
          obtain ⟨O, hO⟩ : ∃ b, b = gd + 1 := ⟨_, rfl⟩
          rw [← hY, ← hgd, ← hO]
          have hcy : Chg [] w5 Y := by rw [hY]; exact ((Chg.refl [] w5).alloc _).alloc _
          have HRO : Hid (Y.row? O = some #[.slice (some ⟨g, 0, none⟩) (4 + t.n) cc, .slice none 0 0, .int .u32 0, .slice (some ⟨gd, 0, none⟩) 1 1, .slice none 0 0]) := Lib.hid (by rw [hY, hgd, hO]; exact row_alloc_at _ _ _ _ (by simp; omega))
          have HOD : Hid (Y.ownsRow gd 55 3 (.slice (some ⟨gd, 0, none⟩) 1 1) 1 [.string (nmC j), .int .i64 0, .int .u32 4]) := Lib.hid (by
            rw [hY, hgd]
            exact ownsRow_chg (own_new (w := w5) (base := w5.heap.size) (e := 55) (n := 1) (size := 3) (vs := [.string (nmC j), .int .i64 0, .int .u32 4]) (Nat.le_refl _) rfl (by decide)) ((Chg.refl [] _).alloc _) (by intro k _; simp))
          have HYZ : Hid (Y.heap.size = O + 1 ∧ O = gd + 1 ∧ gd = w5.heap.size) := Lib.hid ⟨by rw [hY, hO, hgd]; simp, hO, hgd⟩
          have HCY : Hid (Chg [] X Y) := Lib.hid (HC5.out.trans hcy)
          have HCA2 : Hid (∀ E W', Chg E Y W' → g ∉ E → U8At W' g 0 ([0, 0, 0, 0] ++ t.L)) := Lib.hid fun E W' hW hg k x hk => ⟨keepc (keepc (HCA.out k x hk).1 hcy (by simp)) hW hg, (HCA.out k x hk).2⟩
          obtain ⟨u, hu⟩ : ∃ u, u = T2.getD j zBy := ⟨_, rfl⟩
          have HU := Lib.hid hu
          clear hY hgd hO hcy hu
          go_upto_if 94 with (fail)
          go_cut [] (fun wx => wx.row? O = some #[.slice (some ⟨g, 0, none⟩) (4 + t.n) cc, .slice u.p u.n u.c, .int .u32 0, .slice (some ⟨gd, 0, none⟩) 1 1, .slice none 0 0] ∧ Chg [O] Y wx)
          case first =>
            by_cases hj2 : j < n2
            · have dJ2 : (j : Int) < (n2 : Int) := by omega
              obtain rfl := HP2.out (by omega)
              obtain ⟨u2, hu2⟩ : ∃ t, T2[j]? = some t := ⟨_, List.getElem?_eq_getElem (by have := HN2.out; omega)⟩
              have hu3 : u = u2 := by rw [HU.out, List.getD_eq_getElem?_getD, hu2]; rfl
              subst hu3
              have hcl := (HS2.out Y (HC4.out.trans (HCX.out.1.trans HCY.out)) j u hu2).1
              have c1 : Y.cell? ⟨O, 1, none⟩ = some (.slice none 0 0) := by rw [row_cell HRO.out]; rfl
              have f1 : Y.frozen? ⟨O, 1, none⟩ = false := row_free HRO.out _
              have HRO2 : Hid ((Y.setCell ⟨O, 1, none⟩ (.slice u.p u.n u.c)).row? O = some #[.slice (some ⟨g, 0, none⟩) (4 + t.n) cc, .slice u.p u.n u.c, .int .u32 0, .slice (some ⟨gd, 0, none⟩) 1 1, .slice none 0 0]) := Lib.hid (by rw [row_setCell_same, HRO.out]; rfl)
              clear hj2 hu2
              go_wp2_with fail
              go_meet
              exact ⟨HRO2.out, (Chg.refl [O] Y).setCell (.inl (by simp)) _⟩
            · have dJ2 : ¬ (j : Int) < (n2 : Int) := by omega
              have hu3 : u = zBy := by rw [HU.out, List.getD_eq_getElem?_getD, List.getElem?_eq_none (by have := HN2.out; omega)]; rfl
              subst hu3
              clear hj2
              go_wp2_with fail
              go_meet
              exact ⟨HRO.out, Chg.refl _ _⟩
          case rest =>
            obtain ⟨hrow, hch2⟩ := hcut
            have HR2 := Lib.hid hrow
            have HCW := Lib.hid hch2
            clear hrow hch2
            have h8 := HB1.out.2.1
            obtain ⟨m, hm⟩ : ∃ m, m = (j + 1) % n1 := ⟨_, rfl⟩
            have hn0 : 0 < n1 := Nat.lt_of_le_of_lt (Nat.zero_le _) HJN.out
            have hml : m < n1 := by rw [hm]; exact Nat.mod_lt _ hn0
            have hm1 : m < 100 := by omega
            have hj1 : j < 100 := by have := HJN.out; omega
            have n0 : ¬ n1 = 0 := by omega
            have n0' : ¬ (n1 : Int) = 0 := by omega
            have e3 := w64c m hm1
            have e4 := u8c m hm1
            obtain ⟨e6, e5⟩ := u32c j hj1
            obtain ⟨e1, e2, e2', -⟩ := modc j n1 m hn0 hm
            have e0 : wrap64 ((j : Int) + 1) = ((j + 1 : Nat) : Int) := HWJ.out
            clear hn0 hm1 hj1 e1 e2 e5
            have hcv := conv_nmC wc m
            have HM : Hid (m = (j + 1) % n1) := Lib.hid hm
            clear hm hml h8
            obtain ⟨Z, hZ⟩ : ∃ Z, Z = (wc.alloc (.cells #[.int .u8 (97 + (m : Int))] 5)).alloc (.cells #[.int .i64 0, .int .u32 0, .int .i64 1, .string (nmC m), .int .u32 (j : Int)] 57) := ⟨_, rfl⟩
            have hcz : Chg [] wc Z := by rw [hZ]; exact ((Chg.refl [] wc).alloc _).alloc _
            have hrz : Z.row? O = some #[.slice (some ⟨g, 0, none⟩) (4 + t.n) cc, .slice u.p u.n u.c, .int .u32 0, .slice (some ⟨gd, 0, none⟩) 1 1, .slice none 0 0] := (hcz.row (row_lt HR2.out) (by simp)).trans HR2.out
            have c4z : Z.cell? ⟨O, 4, none⟩ = some (.slice none 0 0) := by rw [row_cell hrz]; rfl
            have f4z : Z.frozen? ⟨O, 4, none⟩ = false := row_free hrz _
            obtain ⟨gr, hgr⟩ : ∃ b, b = wc.heap.size + 1 := ⟨_, rfl⟩
            have HRR : Hid (Z.row? gr = some ((rfsC n1 j).flatMap RfC).toArray) := Lib.hid (by
              rw [hZ, hgr]
              refine (row_alloc_at _ _ _ _ (by simp)).trans ?_
              simp [rfsC, RfC, ← HM.out])
            have HRZ := Lib.hid hrz
            have HCZ := Lib.hid hcz
            rw [hZ] at c4z f4z
            have HZ := Lib.hid hZ
            have HGR := Lib.hid hgr
            clear hZ hcz hrz hgr
            go_upto_region 23 with (fail)
            rw [← HZ.out, ← HGR.out]
            clear c4z f4z e0 e2' e3 e4 e6 n0 n0' hcv
            obtain ⟨Q, hQ⟩ : ∃ Q, Q = Z.setCell ⟨O, 4, none⟩ (.slice (some ⟨gr, 0, none⟩) 1 1) := ⟨_, rfl⟩
            rw [← hQ]
            have hrq : Q.row? O = some #[.slice (some ⟨g, 0, none⟩) (4 + t.n) cc, .slice u.p u.n u.c, .int .u32 0, .slice (some ⟨gd, 0, none⟩) 1 1, .slice (some ⟨gr, 0, none⟩) 1 1] := by rw [hQ, row_setCell_same, HRZ.out]; rfl
            have hcq : Chg [O] Z Q := by rw [hQ]; exact (Chg.refl [O] Z).setCell (.inl (by simp)) _
            have HRQ := Lib.hid hrq
            have HCQ : Hid (Chg [O] Y Q) := Lib.hid (HCW.out.trans ((M.chg_any HCZ.out).trans hcq))
            have HRFS : Hid (Q.row? gr = some ((rfsC n1 j).flatMap RfC).toArray ∧ O < gr ∧ gr < Q.heap.size) := Lib.hid (by
              have h1 := row_lt HR2.out
              have h2 : gr ≠ O := by rw [HGR.out]; omega
              exact ⟨(hcq.row (row_lt HRR.out) (by simpa using h2)).trans HRR.out, by rw [HGR.out]; omega, Nat.lt_of_lt_of_le (row_lt HRR.out) hcq.size⟩)
            clear hQ hrq hcq
            go_upto_if 115 with (fail)
            go_cut [] (fun wx => ∃ gd2 cd2, wx.row? O = some #[.slice (some ⟨g, 0, none⟩) (4 + t.n) cc, .slice u.p u.n u.c, .int .u32 0, .slice (some ⟨gd2, 0, none⟩) (dfsC j).length cd2, .slice (some ⟨gr, 0, none⟩) 1 1] ∧ DfsAt wx gd2 0 (dfsC j) ∧ (gd2 = gd ∨ gr < gd2) ∧ gd2 < wx.heap.size ∧ Chg [O, gd] Q wx)
            case first =>
              have HODQ : Hid (Q.ownsRow gd 55 3 (.slice (some ⟨gd, 0, none⟩) 1 1) 1 [.string (nmC j), .int .i64 0, .int .u32 4]) := Lib.hid (ownsRow_chg HOD.out HCQ.out (by intro k hk; cases hk; have := HYZ.out.2.1; simp; omega))
              by_cases hj0 : j = 0
              · have dJ0 : ((j : Int) == 0) = true := by rw [hj0]; rfl
                obtain ⟨Qa, hQa⟩ : ∃ Q', Q' = Q.alloc (.cells #[.string ⟨#[115, 116, 97, 114, 116]⟩, .int .i64 0, .int .u32 0] 55) := ⟨_, rfl⟩
                have hca : Chg [] Q Qa := by rw [hQa]; exact (Chg.refl [] Q).alloc _
                have hra : Qa.row? Q.heap.size = some (DfC stC).toArray := by rw [hQa]; exact row_alloc_at _ _ _ _ rfl
                have c3 : Q.cell? ⟨O, 3, none⟩ = some (.slice (some ⟨gd, 0, none⟩) 1 1) := by rw [row_cell HRQ.out]; rfl
                have HCAA := Lib.hid hca
                have HRA := Lib.hid hra
                have HQA := Lib.hid hQa
                have HSZ : Hid (gd ≤ Q.heap.size ∧ Qa.heap.size = Q.heap.size + 1) := Lib.hid ⟨by have := row_lt HRQ.out; have := HYZ.out; omega, by rw [hQa]; simp⟩
                have HJ0 := Lib.hid hj0
                clear hca hra hQa hj0
                go_wp2_with (at_builtin; rw [← HQA.out]; refine (app_structL rfl _ _ 50 55 _ 3 32 rfl Try.underlying50 info55 rfl (by decide) (by decide) gd (.slice (some ⟨gd, 0, none⟩) 1 1) 1 [.string (nmC j), .int .i64 0, .int .u32 4] rfl (ownsRow_chg HODQ.out HCAA.out (by intro k _; simp)) Q.heap.size (DfC stC) rfl rfl HRA.out (by simp [DfC, stC, Value.oneCell']) (by decide) (by have := HSZ.out; omega) ?_))
                intro v6 w6 hx1 hx2 hx3
                obtain ⟨p6, cd6, rfl, hp6⟩ := own_form hx1
                obtain ⟨g6, rfl, hg6⟩ := hp6 (by omega)
                have hO : O ≠ gd := by have := HYZ.out.2.1; omega
                have hc6 := grown_chg hx2
                have hr6 : w6.row? O = some #[.slice (some ⟨g, 0, none⟩) (4 + t.n) cc, .slice u.p u.n u.c, .int .u32 0, .slice (some ⟨gd, 0, none⟩) 1 1, .slice (some ⟨gr, 0, none⟩) 1 1] := (hc6.row (row_lt ((HCAA.out.row (row_lt HRQ.out) (by simp)).trans HRQ.out)) (by rw [Option.mem_toList]; intro e; cases e; exact hO rfl)).trans ((HCAA.out.row (row_lt HRQ.out) (by simp)).trans HRQ.out)
                have hg6' : g6 = gd ∨ gr < g6 := by
                  rcases hx3 g6 hg6 with e | e
                  · cases e; exact .inl rfl
                  · exact .inr (by have := HSZ.out.2; have := HRFS.out.2.2; omega)
                have hgO : g6 ≠ O := by have := HYZ.out.2.1; have := HRFS.out.2.1; omega
                have HX6 := Lib.hid hx1
                have HR6 := Lib.hid hr6
                have HG6 := Lib.hid hg6
                have HG6' := Lib.hid hg6'
                have HGO := Lib.hid hgO
                have HC6 : Hid (Chg [O, gd] Q w6) := Lib.hid (by
                  have h1 : Chg [O, gd] Qa w6 := ⟨hc6.os, hc6.tape, hc6.output, hc6.size, fun k hk he => hc6.block k hk (by rw [Option.mem_toList]; intro e; cases e; exact he (by simp))⟩
                  exact (M.chg_any HCAA.out).trans h1)
                have c3 : w6.cell? ⟨O, 3, none⟩ = some (.slice (some ⟨gd, 0, none⟩) 1 1) := by rw [row_cell hr6]; rfl
                have f3 : w6.frozen? ⟨O, 3, none⟩ = false := row_free hr6 _
                clear hx1 hx2 hx3 hp6 hO hc6 hr6 hg6' hgO hg6
                go_wp2_with fail
                go_meet
                have hcs : Chg [O] w6 (w6.setCell ⟨O, 3, none⟩ (.slice (some ⟨g6, 0, none⟩) (1 + 1) cd6)) := (Chg.refl [O] w6).setCell (.inl (by simp)) _
                have hj0 := HJ0.out
                refine ⟨g6, cd6, ?_, ?_, HG6'.out, ?_, HC6.out.trans ⟨hcs.os, hcs.tape, hcs.output, hcs.size, fun k hk he => hcs.block k hk (by intro e; exact he (by simp at e; simp [e]))⟩⟩
                · rw [row_setCell_same, HR6.out]; subst hj0; rfl
                · subst hj0
                  exact own_dfC (ownsRow_chg HX6.out hcs (by intro k hk; rw [HG6.out] at hk; cases hk; simpa using HGO.out)) HG6.out (by intro d hd; simp [dfsC, stC] at hd; rcases hd with rfl | rfl <;> decide)
                · exact Nat.lt_of_lt_of_le (HX6.out.lt g6 HG6.out).2 hcs.size
              · have dJ0 : ¬ (j : Int) = 0 := by omega
                have HJ0 := Lib.hid hj0
                clear hj0
                go_wp2_with fail
                go_meet
                have hd : dfsC j = [⟨nmC j, 0, 4⟩] := by unfold dfsC; rw [if_neg HJ0.out]
                refine ⟨gd, 1, by rw [hd]; exact HRQ.out, ?_, .inl rfl, (HODQ.out.lt gd rfl).2, Chg.refl _ _⟩
                rw [hd]
                exact own_dfC (L := [⟨nmC j, 0, 4⟩]) HODQ.out rfl (by intro d hd; rw [List.mem_singleton] at hd; subst hd; show (4 : Nat) < 4294967296; decide)
            case rest =>
              obtain ⟨gd2, cd2, hro, hfa, hgd2, hlt2, hcq2⟩ := hcut
              have HRO2 := Lib.hid hro
              have HFA := Lib.hid hfa
              have HCQ2 : Hid (Chg [O, gd] Y wc) := Lib.hid (by
                have h1 := HCQ.out
                exact (show Chg [O, gd] Y Q from ⟨h1.os, h1.tape, h1.output, h1.size, fun k hk he => h1.block k hk (by intro e; exact he (by simp at e; simp [e]))⟩).trans hcq2)
              have HGD2 : Hid (wr.heap.size < gd2 ∧ gd2 < wc.heap.size) := Lib.hid (by
                have h1 := HYZ.out
                have h2 := HC5.out.size
                have h3 := HCX.out.2
                have h4 := HRFS.out.2.1
                exact ⟨by rcases hgd2 with e | e <;> omega, hlt2⟩)
              have HRR2 : Hid (wc.row? gr = some ((rfsC n1 j).flatMap RfC).toArray) := Lib.hid ((hcq2.row (row_lt HRFS.out.1) (by have := HRFS.out.2.1; have := HYZ.out.2.1; simp; omega)).trans HRFS.out.1)
              clear hro hfa hgd2 hlt2 hcq2
              obtain ⟨s, hs⟩ : ∃ s, s = obQ g cc gd2 cd2 gr n1 j t u := ⟨_, rfl⟩
              have HSQ := Lib.hid hs
              have hpa : PartsC wc s := by
                rw [hs]
                have h1 := HG.out
                have h2 := HYZ.out
                have h3 := HRFS.out
                refine ⟨HCA2.out [O, gd] wc HCQ2.out (by simp; omega), HFA.out, ?_, ?_, HGD2.out.2, ?_⟩
                · refine rfs_row (L := rfsC n1 j) (tl := []) (by rw [List.append_nil]; exact HRR2.out) ?_
                  intro d hd
                  simp [rfsC] at hd
                  subst hd
                  exact ⟨by show (0 : Nat) < 4294967296; decide, by have := HJN.out; have := HB1.out.2.1; show j < 4294967296; omega⟩
                · exact Nat.lt_of_lt_of_le h1.2 (Nat.le_trans (by omega) HCQ2.out.size)
                · exact row_lt HRR2.out
              have HPA := Lib.hid hpa
              have HC8 : Hid (Chg [] w4 wc) := Lib.hid (chg_newer (HCX.out.1.trans HCY.out |> fun h => (show Chg [] w4 Y from h)) HCQ2.out (by
                intro k hk
                have h1 := HYZ.out
                have h2 := HC5.out.size
                have h3 := HCX.out.1.size
                simp at hk
                omega))
              have HC9 : Hid (Chg [] wr wc) := Lib.hid (chg_newer (HCWX.out.trans HCY.out) HCQ2.out (by
                intro k hk
                have h1 := HYZ.out
                have h2 := HC5.out.size
                have h3 := HCWX.out.size
                simp at hk
                omega))
              have hL2 := HLS.out.keep HC9.out
              have HL2 := Lib.hid hL2
              clear hs hpa hL2
              obtain ⟨pv, cv, rfl, -⟩ := own_form HLS.out.own
              go_wp2_with (first | (refine wpList_load_part a53 [.slice (some ⟨g, 0, none⟩) (4 + t.n) cc, .slice u.p u.n u.c, .int .u32 0, .slice (some ⟨gd2, 0, none⟩) (dfsC j).length cd2, .slice (some ⟨gr, 0, none⟩) 1 1] rfl _ rfl rfl rfl (fun i x hx => by rw [row_cell HRO2.out, ← hx, Nat.zero_add]; exact List.getElem?_toArray) ?_) | (at_builtin; refine (app_structB rfl _ _ 22 53 _ 5 104 rfl Try.underlying22 info53 rfl (by decide) (by decide) S1 (.slice pv L.length cv) L.length (L.flatMap fun s => (obA s).toList) rfl (HL2.out.own.alloc _) wc.heap.size [.slice (some ⟨g, 0, none⟩) (4 + t.n) cc, .slice u.p u.n u.c, .int .u32 0, .slice (some ⟨gd2, 0, none⟩) (dfsC j).length cd2, .slice (some ⟨gr, 0, none⟩) 1 1] rfl rfl (row_alloc_at _ _ _ _ rfl) (by simp [Value.oneCell']) (by have := HLN.out; have := HJN.out; have := HB1.out.2.1; omega) (by have := HC8.out.size; have := HS1'.out; simp; omega) ?_)))
              intro v8 w8 hx1 hx2 hx3
              obtain ⟨X8, hX8⟩ : ∃ X, X = wc.alloc (.cells #[.slice (some ⟨g, 0, none⟩) (4 + t.n) cc, .slice u.p u.n u.c, .int .u32 0, .slice (some ⟨gd2, 0, none⟩) (dfsC j).length cd2, .slice (some ⟨gr, 0, none⟩) 1 1] 53) := ⟨_, rfl⟩
              have hc8 : Chg [] wc X8 := by rw [hX8]; exact (Chg.refl [] wc).alloc _
              have hx3' : ∀ g, v8.ownBlock = some g → (Value.slice pv L.length cv).ownBlock = some g ∨ X8.heap.size ≤ g := fun y hy => (hx3 y hy).imp id (fun h => by rw [hX8]; simpa using h)
              have hx1' : w8.ownsRow S1 53 5 v8 (L.length + 1) ((L.flatMap fun s => (obA s).toList) ++ (obA s).toList) := by rw [HSQ.out]; exact hx1
              rw [← hX8] at hx2
              have HLS8 : Hid (LsQ w8 S1 n1 T1 T2 v8 (L ++ [s])) := Lib.hid ((HL2.out.keep hc8).more hx1' hx2 hx3' (by rw [HLN.out, HT.out, ← HU.out]; exact ⟨g, cc, gd2, cd2, gr, HSQ.out⟩) (HPA.out.keep hc8 (by simp) (by simp) (by simp)) (by
                intro gb hgb
                have h0 := (HLS.out.own.lt gb hgb).2
                have h1 := HG.out
                have h2 := HYZ.out
                have h3 := HRFS.out
                have h4 := HGD2.out
                have h5 := HCX.out.2
                have h6 := HC5.out.size
                rw [HSQ.out]
                refine ⟨?_, ?_, ?_⟩
                · show gb ≠ g; omega
                · show gb ≠ gd2; omega
                · show gb ≠ gr; omega))
              have HC10 : Hid (Chg [] w4 w8) := Lib.hid (chg_grown (HC8.out.trans hc8) hx2 (fun k hk => by rw [← HS1'.out]; exact (HLS.out.own.lt k hk).1))
              clear hX8 hc8 hx3' hx1' hx1 hx2 hx3
              go_wp2_with fail
              case roundEnd => exact ⟨⟨j + 1, L ++ [s], HJN.out, by rw [HWJ.out], by rw [List.length_append, HLN.out]; rfl, HLS8.out, HC10.out⟩, by rw [HWJ.out]; simp only [intOf, Int.toNat_natCast]; have := HJN.out; omega⟩
        · have dJ : ¬ (j : Int) < (n1 : Int) := by omega
          have hjn2 : j = n1 := by have := HJ.out; omega
          have HLN2 : Hid (L.length = n1) := Lib.hid (by rw [HLN.out, hjn2])
          clear hjn hjn2
          obtain ⟨pv, cv, rfl, hpv⟩ := own_form HLS.out.own
          have HPV := Lib.hid hpv
          clear hpv
          have hnpos : 0 < L.length := by have := HLN2.out; have := HB1.out.1; omega
          obtain ⟨gl, rfl, hgl⟩ := HPV.out hnpos
          obtain ⟨tl, hrow, -, -⟩ := own_row HLS.out.own
          have hcw : Chg [] W wr := HC4.out.trans HCH.out
          have hb1 : ∀ t ∈ T1, ByOk wr t := fun t ht => by
            obtain ⟨i, hi⟩ := List.mem_iff_getElem?.1 ht
            exact (HS1.out wr hcw i t hi).2
          have hb2 : ∀ t ∈ T2, ByOk wr t := fun t ht => by
            obtain ⟨i, hi⟩ := List.mem_iff_getElem?.1 ht
            exact (HS2.out wr hcw i t hi).2
          have HLC : Hid (LsC n1 (T1.map (·.L)) (T2.map (·.L)) L) := Lib.hid (ls_C HLS.out HLN2.out HN1.out HN2.out HB1.out hb1 hb2 (by rw [← HAE.out]; exact HSA.out) (by rw [← HAE.out]; exact HMA.out))
          have HOK : Hid (∀ s ∈ L, ObOk wr s) := Lib.hid (ls_ok HLS.out hb1 hb2)
          have HAT2 := Lib.hid (obs_row hrow HOK.out)
          have HCW := Lib.hid hcw
          clear hnpos hgl hrow hcw hb1 hb2
          go_upto_region 27 with (fail)
          go_wp2_with fail
          refine (link_any (c := cv) HAT2.out rfl (fun _ => rfl) (ls_names HLC.out)).mono ?_
          rintro e w5 hpost
          obtain ⟨v5, rfl, hf, hc5⟩ := post_ok hpost (err_C HLC.out)
          obtain ⟨ent, gg, cg, gr, cr, gs, cs, S, rfl, hfc⟩ := file_C HLC.out HOK.out hf
          have HFC := Lib.hid hfc
          have HC5 : Hid (Chg [] W w5) := Lib.hid (HCW.out.trans hc5)
          obtain ⟨ns, hns⟩ : ∃ ns, ns = S.length := ⟨_, rfl⟩
          obtain ⟨ny, hny⟩ : ∃ ns, ns = (defsL L).length + 1 := ⟨_, rfl⟩
          rw [← hns, ← hny]
          have HNS := Lib.hid hns
          have HNY := Lib.hid hny
          clear hpost hf hc5 hfc hns hny
          obtain ⟨V, hV⟩ : ∃ V, V = w5.alloc (.cells #[.int .u32 (ent : Int), .slice (some ⟨gg, 0, none⟩) ns cg, .slice (some ⟨gr, 0, none⟩) n1 cr, .slice (some ⟨gs, 0, none⟩) ny cs] 30) := ⟨_, rfl⟩
          obtain ⟨F, hF⟩ : ∃ b, b = w5.heap.size := ⟨_, rfl⟩
          have hcV : Chg [] w5 V := by rw [hV]; exact (Chg.refl [] w5).alloc _
          have hrV : V.row? F = some #[.int .u32 (ent : Int), .slice (some ⟨gg, 0, none⟩) ns cg, .slice (some ⟨gr, 0, none⟩) n1 cr, .slice (some ⟨gs, 0, none⟩) ny cs] := by rw [hV, hF]; exact row_alloc_at _ _ _ _ rfl
          have HCV := Lib.hid hcV
          have HRV := Lib.hid hrV
          have HV := Lib.hid hV
          have HF := Lib.hid hF
          clear hV hF hcV hrV
          go_upto_region 30 with (first | (refine wpList_store_new a30 _ _ rfl rfl rfl rfl rfl rfl rfl rfl ?_))
          rw [← HV.out, ← HF.out]
          clear HV
          go_wp2_with fail
          refine (M.new_ok V).mono ?_
          rintro e w6 ⟨rfl, hw6⟩
          obtain ⟨mb, hmb⟩ : ∃ b, b = V.heap.size := ⟨_, rfl⟩
          rw [← hmb]
          have HM6 : Hid (w6.row? mb = some (mem fun _ => 0)) := Lib.hid (by rw [hw6, hmb]; exact M.new_row V)
          have hcV6 : Chg [] V w6 := by rw [hw6]; exact (Chg.refl [] V).alloc _
          have HC6 : Hid (Chg [] W w6) := Lib.hid (HC5.out.trans (HCV.out.trans hcV6))
          have HFC6 := Lib.hid (HFC.out.keep (HCV.out.trans hcV6))
          have HR6 : Hid (w6.row? F = some #[.int .u32 (ent : Int), .slice (some ⟨gg, 0, none⟩) ns cg, .slice (some ⟨gr, 0, none⟩) n1 cr, .slice (some ⟨gs, 0, none⟩) ny cs]) := Lib.hid ((hcV6.row (row_lt HRV.out) (by simp)).trans HRV.out)
          have HMB : Hid (gg ≠ mb ∧ gr ≠ mb ∧ gs ≠ mb ∧ F ≠ mb ∧ mb < w6.heap.size) := Lib.hid (by
            have h1 := HFC.out.bg
            have h2 := HFC.out.br
            have h3 := HFC.out.bs
            have h4 := HCV.out.size
            have h5 := row_lt HRV.out
            have h6 := row_lt HM6.out
            exact ⟨by omega, by omega, by omega, by omega, h6⟩)
          have HMB5 : Hid (w5.heap.size ≤ mb) := Lib.hid (by rw [hmb]; exact HCV.out.size)
          have c1 : w6.cell? ⟨F, 1, none⟩ = some (.slice (some ⟨gg, 0, none⟩) ns cg) := by rw [row_cell HR6.out]; rfl
          obtain ⟨H6, hH6⟩ : ∃ b, b = w6.heap.size := ⟨_, rfl⟩
          have HH6 := Lib.hid hH6
          clear hw6 hmb hcV6 hH6
          go_upto_block 4 with (fail)
          clear c1
          go_wp2_with fail
          go_loopw [138, 17] (fun i v wr => ∃ j : Nat, j ≤ ns ∧ i = .int .i64 (j : Int) ∧ wr.ownsRow H6 64 3 v j (((S.take j).map (M.spB B)).flatMap M.SpC) ∧ Chg [] w6 wr) (fun i _ _ => ns - (intOf i).toNat)
          case atStart => exact ⟨0, Nat.zero_le _, rfl, by rw [List.take_zero]; exact World.ownsRow_nil _ _ _ _, Chg.refl _ _⟩
          case round =>
            obtain ⟨j, hj, rfl, hown, hch⟩ := hrel
            have HJ2 := Lib.hid hj
            have HOW := Lib.hid hown
            have HCH6 := Lib.hid hch
            clear hj hown hch
            by_cases hjn : j < ns
            · skip
              have HJN := Lib.hid hjn
              have dJ : (j : Int) < (ns : Int) := by omega
              obtain ⟨s, hs⟩ : ∃ s, S[j]? = some s := ⟨_, List.getElem?_eq_getElem (by rw [← HNS.out]; exact hjn)⟩
              have hsz := HFC6.out.sz s (List.mem_of_getElem? hs)
              have hcl := ((HFC6.out.keep HCH6.out).sg j s hs).1
              have HSC : Hid (∀ i u, (M.SgC s)[i]? = some u → wr.cell? ⟨gg, j * 4 + i, none⟩ = some u) := Lib.hid (fun i u hu => by have := hcl i u hu; rwa [Nat.zero_add] at this)
              have HS := Lib.hid hs
              obtain ⟨y, hy⟩ : ∃ y, y = B + s.ad := ⟨_, rfl⟩
              have e1 : IntKind.u32.wrap ((B : Int) + (s.ad : Int)) = (y : Int) := u32addN hy.symm (by have := HQB.out; omega)
              have HY := Lib.hid hy
              have HNS2 : Hid (ns ≤ 2) := Lib.hid (by rw [HNS.out]; exact HFC6.out.s2)
              have HWJ : Hid (wrap64 ((j : Int) + 1) = ((j + 1 : Nat) : Int)) := Lib.hid (w64addN (b := 1) rfl (by have := HNS2.out; omega))
              obtain ⟨X, hX⟩ : ∃ X, X = wr.alloc (.cells (M.SgC s).toArray 47) := ⟨_, rfl⟩
              obtain ⟨Bx, hBx⟩ : ∃ b, b = wr.heap.size := ⟨_, rfl⟩
              have hrX : X.row? Bx = some (M.SgC s).toArray := by rw [hX, hBx]; exact row_alloc_at _ _ _ _ rfl
              have hcX : Chg [] wr X := by rw [hX]; exact (Chg.refl _ _).alloc _
              have c0 : X.cell? ⟨Bx, 0, none⟩ = some (.int .u32 (s.ad : Int)) := by rw [row_cell hrX]; rfl
              have c2 : X.cell? ⟨Bx, 2, none⟩ = some (.int .u32 (s.sz : Int)) := by rw [row_cell hrX]; rfl
              have c3 : X.cell? ⟨Bx, 3, none⟩ = some (.int .i64 s.rt) := by rw [row_cell hrX]; rfl
              have HCX := Lib.hid hcX
              have HX := Lib.hid hX
              have HBX := Lib.hid hBx
              obtain ⟨pv3, cv3, rfl, -⟩ := own_form HOW.out
              clear hX hBx hrX hcX hs hsz hcl hy hjn
              go_upto_region 35 with (first | (refine wpList_load_part M.a60 (M.SgC s) rfl _ rfl rfl rfl HSC.out ?_) | (refine wpList_store_new M.a60 _ _ rfl rfl rfl rfl rfl rfl rfl rfl ?_))
              rw [← HX.out, ← HBX.out]
              clear HX HBX
              go_wp2_with (at_builtin; refine (app_structL rfl _ _ 62 64 _ 3 16 rfl Try.underlying62 info64 rfl (by decide) (by decide) H6 (.slice pv3 j cv3) j (((S.take j).map (M.spB B)).flatMap M.SpC) rfl ((ownsRow_chg HOW.out HCX.out (by intro k _; simp)).alloc _) X.heap.size [.int .u32 (y : Int), .int .u32 (s.sz : Int), .int .i64 s.rt] rfl rfl (row_alloc_at _ _ _ _ rfl) (by simp [Value.oneCell']) (by have := HNS2.out; have := HJN.out; omega) (by have := HCX.out.size; have := HCH6.out.size; have := HH6.out; simp; omega) ?_))
              intro v8 w8 hx1 hx2 hx3
              have HO8 : Hid (w8.ownsRow H6 64 3 v8 (j + 1) (((S.take (j + 1)).map (M.spB B)).flatMap M.SpC)) := Lib.hid (by
                rw [List.take_add_one, HS.out]
                simp only [Option.toList_some, List.map_append, List.map_cons, List.map_nil, List.flatMap_append, List.flatMap_cons, List.flatMap_nil, List.append_nil]
                rw [show M.SpC (M.spB B s) = [.int .u32 (y : Int), .int .u32 (s.sz : Int), .int .i64 s.rt] by rw [HY.out]; rfl]
                rw [List.map_take]
                exact hx1)
              have HC8 : Hid (Chg [] w6 w8) := Lib.hid (chg_grown ((HCH6.out.trans HCX.out).alloc _) hx2 (fun k hk => by rw [← HH6.out]; exact (HOW.out.lt k hk).1))
              clear hx1 hx2 hx3 e1 c0 c2 c3
              go_wp2_with fail
              case roundEnd => exact ⟨⟨j + 1, HJN.out, by rw [HWJ.out], HO8.out, HC8.out⟩, by rw [HWJ.out]; simp only [intOf, Int.toNat_natCast]; have := HJN.out; omega⟩
            · have dJ : ¬ (j : Int) < (ns : Int) := by omega
              have hjn2 : j = ns := by have := HJ2.out; omega
              have HO9 : Hid (wr.ownsRow H6 64 3 u17 ns ((S.map (M.spB B)).flatMap M.SpC)) := Lib.hid (by
                have h := HOW.out
                rw [hjn2, List.take_of_length_le (by rw [← HNS.out]; exact Nat.le_refl _)] at h
                exact h)
              have hns1 : 1 ≤ ns := by rw [HNS.out]; exact HFC6.out.s1
              have hns2 : ns ≤ 2 := by rw [HNS.out]; exact HFC6.out.s2
              obtain rfl := hjn2
              obtain ⟨pp, cp, rfl, hpp⟩ := own_form HO9.out
              obtain ⟨gp, rfl, hgp⟩ := hpp hns1
              have hsp : M.SpsAt wr gp 0 (S.map (M.spB B)) := fun k s hk => by
                have h1 := List.mem_of_getElem? hk
                rw [List.mem_map] at h1
                obtain ⟨x, hx, rfl⟩ := h1
                have h2 := HFC6.out.sz x hx
                have h3 := HQB.out
                refine ⟨fun i u hu => ?_, by show B + x.ad < 4294967296; omega, by show x.sz < 4294967296; omega⟩
                rw [Nat.zero_add]
                exact cellsAt HO9.out hgp _ _ (flat_atC 3 M.SpC (fun _ => rfl) (S.map (M.spB B)) k (M.spB B x) i u hk hu)
              have HSP := Lib.hid hsp
              have HGP : Hid (gp ≠ mb ∧ gp < wr.heap.size ∧ H6 ≤ gp) := Lib.hid (by have h1 := HO9.out.lt gp hgp; have h2 := HMB.out.2.2.2.2; have h3 := HH6.out; exact ⟨by omega, h1.2, h1.1⟩)
              have hrF : wr.row? F = some #[.int .u32 (ent : Int), .slice (some ⟨gg, 0, none⟩) j cg, .slice (some ⟨gr, 0, none⟩) n1 cr, .slice (some ⟨gs, 0, none⟩) ny cs] := (HCH6.out.row (row_lt HR6.out) (by simp)).trans HR6.out
              have HRF := Lib.hid hrF
              have HMW : Hid (wr.row? mb = some (mem fun _ => 0)) := Lib.hid ((HCH6.out.row (row_lt HM6.out) (by simp)).trans HM6.out)
              have HFCW := Lib.hid (HFC6.out.keep HCH6.out)
              have HN12 : Hid (1 ≤ j ∧ j ≤ 2) := Lib.hid ⟨hns1, hns2⟩
              have f0 : wr.cell? ⟨F, 0, none⟩ = some (.int .u32 (ent : Int)) := by rw [row_cell hrF]; rfl
              have f1 : wr.cell? ⟨F, 1, none⟩ = some (.slice (some ⟨gg, 0, none⟩) j cg) := by rw [row_cell hrF]; rfl
              have f2 : wr.cell? ⟨F, 2, none⟩ = some (.slice (some ⟨gr, 0, none⟩) n1 cr) := by rw [row_cell hrF]; rfl
              have f3 : wr.cell? ⟨F, 3, none⟩ = some (.slice (some ⟨gs, 0, none⟩) ny cs) := by rw [row_cell hrF]; rfl
              clear hjn hpp hgp hsp hrF hns1 hns2
              go_wp2_with fail
              refine (M.pload_any (S := S) (P := S.map (M.spB B)) (b := gg) (o := 0) (pb := gp) (po := 0) HMW.out (fun X hX k s hk => ?_) HNS.out.symm (fun _ => rfl) (by have := HN12.out; omega) (fun s hs => by have := HFC6.out.sz s hs; exact ⟨by omega, by omega⟩) HSP.out (by rw [List.length_map]; exact HNS.out.symm) (fun _ => rfl) HGP.out.1 (by have := HN12.out; omega)).mono ?_
              · have h1 := HFCW.out.sg k s hk
                have h2 := (HFC.out.sg k s hk).2
                have h3 := HMB.out.1
                refine ⟨fun i u hu => keepc (h1.1 i u hu) hX (by simpa using h3), h1.2.ad, h1.2.sz, h1.2.ptr, fun i hi => keepc (h1.2.cells i hi) hX ?_, h1.2.byt⟩
                have h4 := World.block_lt_of_cell? _ _ (h2.cells i hi)
                have h5 := HMB5.out
                have h6 : s.bb ≠ mb := by
                  have h7 : s.bb < w5.heap.size := h4
                  omega
                simpa using h6
              rintro e w7 hQ
              rw [M.load_B HQB.out.1 HQB.out.2 S HFC6.out.sz] at hQ
              obtain ⟨rfl, hr7, hc7⟩ := hQ
              obtain ⟨g7, hg7⟩ : ∃ g, g = M.ldF 2147483648 S (S.map (M.spB B)) fun _ => 0 := ⟨_, rfl⟩
              rw [show ((0, M.ldF 2147483648 S (S.map (M.spB B)) fun _ => 0) : Nat × (Nat → Nat)).2 = g7 from hg7.symm] at hr7
              have HG7 : Hid (∀ i, g7 i < 256) := Lib.hid (by
                rw [hg7]
                refine M.ldF_lt _ _ _ _ (fun s hs => ?_) (fun _ => by decide)
                obtain ⟨k, hk⟩ := List.mem_iff_getElem?.1 hs
                exact (HFC6.out.sg k s hk).2.byt)
              have HR7 := Lib.hid hr7
              have HC7 := Lib.hid hc7
              have hrF7 : w7.row? F = some #[.int .u32 (ent : Int), .slice (some ⟨gg, 0, none⟩) j cg, .slice (some ⟨gr, 0, none⟩) n1 cr, .slice (some ⟨gs, 0, none⟩) ny cs] := (hc7.row (row_lt HRF.out) (by simpa using HMB.out.2.2.2.1)).trans HRF.out
              have f0 : w7.cell? ⟨F, 0, none⟩ = some (.int .u32 (ent : Int)) := by rw [row_cell hrF7]; rfl
              have f1 : w7.cell? ⟨F, 1, none⟩ = some (.slice (some ⟨gg, 0, none⟩) j cg) := by rw [row_cell hrF7]; rfl
              have f2 : w7.cell? ⟨F, 2, none⟩ = some (.slice (some ⟨gr, 0, none⟩) n1 cr) := by rw [row_cell hrF7]; rfl
              have f3 : w7.cell? ⟨F, 3, none⟩ = some (.slice (some ⟨gs, 0, none⟩) ny cs) := by rw [row_cell hrF7]; rfl
              clear hr7 hc7 hg7 hrF7
              go_wp2_with fail
              refine (M.apply_any (v := ⟨.int .u32 (ent : Int), .slice (some ⟨gg, 0, none⟩) j cg, some ⟨gr, 0, none⟩, gr, 0, n1, cr, some ⟨gs, 0, none⟩, gs, 0, ny, cs, B, some ⟨gp, 0, none⟩, gp, 0, j, cp, .iface 60 (.pointer (some ⟨mb, 0, none⟩))⟩)
                (Rs := M.rlsC n1 (T1.map (·.L))) (Ys := 0 :: (defsL L).map (·.2)) (Ss := S.map (M.spB B)) (fun r hr => ?_) (fun J w' hc hrow => ?_) rfl HR7.out HG7.out HMB.out.2.1 HMB.out.2.2.1 HGP.out.1 (by have := HN12.out; show j < 1000000; omega) (by have := HB1.out; show n1 < 1000000; omega)).mono ?_
              · unfold M.rlsC at hr
                rw [List.mem_map] at hr
                obtain ⟨k, -, rfl⟩ := hr
                rfl
              · have h1 := HMB.out
                exact ⟨hrow, (HFCW.out.rl.keep HC7.out (by simpa using h1.2.1)).keep hc (by simp), by unfold M.rlsC; rw [List.length_map, List.length_range], fun _ => rfl, (HFCW.out.sy.keep HC7.out (by simpa using h1.2.2.1)).keep hc (by simp), by rw [HFCW.out.sl]; exact HNY.out.symm, fun _ => rfl, (HSP.out.keep HC7.out (by simpa using HGP.out.1)).keep hc (by simp), by rw [List.length_map]; exact HNS.out.symm, fun _ => rfl, by have := HQB.out; show B < 4294967296; omega⟩
              rintro e w8 hQ
              obtain ⟨s0, hs0, ha0, hz0⟩ := HFC6.out.s0
              have hap := M.apply_C HLC.out HQB.out.1 HQB.out.2 (Ss := S.map (M.spB B)) (s0 := M.spB B s0) (List.mem_map.2 ⟨s0, List.mem_of_getElem? hs0, rfl⟩) (by show B + s0.ad = B + 256; rw [ha0]) hz0 g7
              change M.OneQ w7 mb (M.applyN B (M.rlsC n1 (T1.map (·.L))) (0 :: (defsL L).map (·.2)) (S.map (M.spB B)) (M.rlsC n1 (T1.map (·.L))) g7) e w8 at hQ
              rw [hap] at hQ
              obtain ⟨rfl, hr8, hc8⟩ := hQ
              obtain ⟨C, hC⟩ : ∃ C, C = T1.map (·.L) := ⟨_, rfl⟩
              rw [← hC] at hr8
              obtain ⟨g8, hg8⟩ : ∃ g, g = (List.range n1).foldl (fun g j => stN g (q + (256 + atC C j)) (M.valC n1 B C j) 4) g7 := ⟨_, rfl⟩
              have HB8 : Hid (∀ i, g8 i < 256) := Lib.hid (by rw [hg8]; exact M.fold_lt _ _ _ _ HG7.out)
              have HLC2 : Hid (LsC n1 C (T2.map (·.L)) L) := Lib.hid (by rw [hC]; exact HLC.out)
              have HAB : Hid (∀ i, i ≤ n1 → atC C i ≤ 3000) := Lib.hid fun i hi => by have h1 := atC_mono C hi; have h2 := HLC2.out.tot; omega
              have HVB : Hid (∀ i, i < n1 → M.valC n1 B C i < 4294967296) := Lib.hid fun i hi => by
                have h1 := HAB.out ((i + 1) % n1) (Nat.le_of_lt (Nat.mod_lt _ (by omega)))
                have h2 := HQB.out
                have h3 := HB1.out
                unfold M.valC
                omega
              have HLD : Hid (∀ i, i < n1 → leN g8 (q + (256 + atC C i)) 4 = M.valC n1 B C i) := Lib.hid fun i hi => by
                rw [hg8]
                exact M.load_C g7 hi (HVB.out i hi)
              have HR8 : Hid (w8.row? mb = some (mem g8)) := Lib.hid (by rw [hg8]; exact hr8)
              have HC8 : Hid (Chg [] W w8) := Lib.hid (chg_newer (HC6.out.trans HCH6.out) (HC7.out.trans hc8) (by
                intro k hk
                have h1 := HMB5.out
                have h2 := HC5.out.size
                rw [List.mem_singleton] at hk
                omega))
              have HCL : Hid (∀ i t, T1[i]? = some t → atC C (i + 1) = atC C i + (4 + t.n)) := Lib.hid fun i t ht => by
                rw [atC_succ, hC, getD_L, List.getD_eq_getElem?_getD, ht]
                have := (HS1.out w8 HC8.out i t ht).2.1
                show _ + (4 + t.L.length) = _
                rw [this]
              obtain ⟨H8, hH8⟩ : ∃ b, b = w8.heap.size := ⟨_, rfl⟩
              have HH8 := Lib.hid hH8
              have hMB8 : mb < w8.heap.size := row_lt HR8.out
              have HMB8 := Lib.hid hMB8
              clear hr8 hc8 hC hg8 hap hs0 ha0 hz0 f0 f1 f2 f3 hH8 hMB8
              have eB : IntKind.u32.wrap ((B : Int) + 256) = ((B + 256 : Nat) : Int) := u32addN (b := 256) rfl (by have := HQB.out; omega)
              go_upto_block 6 with (fail)
              clear eB
              go_wp2_with fail
              go_loopw [172, 20, 21] (fun i a v wr => ∃ j : Nat, j ≤ n1 ∧ i = .int .i64 (j : Int) ∧ a = .int .u32 ((B + 256 + atC C j : Nat) : Int) ∧ wr.ownsRow H8 25 1 v j ((atsC B C j).map fun x : Nat => Value.int .u32 (x : Int)) ∧ Chg [] w8 wr) (fun i _ _ _ => n1 - (intOf i).toNat)
              case atStart => exact ⟨0, Nat.zero_le _, rfl, rfl, World.ownsRow_nil _ _ _ _, Chg.refl _ _⟩
              case round =>
                obtain ⟨k, hk, rfl, rfl, hown, hch⟩ := hrel
                have HK := Lib.hid hk
                have HOW2 := Lib.hid hown
                have HCK := Lib.hid hch
                clear hk hown hch
                obtain ⟨x, hx⟩ : ∃ x, x = B + 256 + atC C k := ⟨_, rfl⟩
                rw [← hx]
                have HX := Lib.hid hx
                clear hx
                by_cases hkn : k < n1
                · skip
                  have HKN := Lib.hid hkn
                  have dK : (k : Int) < (n1 : Int) := by omega
                  obtain rfl := HP1.out (by omega)
                  obtain ⟨t, ht⟩ : ∃ t, T1[k]? = some t := ⟨_, List.getElem?_eq_getElem (by have := HN1.out; omega)⟩
                  obtain ⟨hcl, hbt⟩ := HS1.out wr (HC8.out.trans HCK.out) k t ht
                  have htn := hbt.2.2.2.2
                  have hsuc := HCL.out k t ht
                  obtain ⟨x2, hx2⟩ : ∃ x, x = B + 256 + atC C (k + 1) := ⟨_, rfl⟩
                  have h1 := HAB.out (k + 1) hkn
                  have h2 := HQB.out
                  have h3 := HX.out
                  have e1 : IntKind.u32.wrap (t.n : Int) = (t.n : Int) := u32id (by omega) (by omega)
                  have e1' : (t.n : Int) % 4294967296 = (t.n : Int) := by omega
                  have e2 : IntKind.u32.wrap (4 + (t.n : Int)) = 4 + (t.n : Int) := u32id (by omega) (by omega)
                  have e3 : IntKind.u32.wrap ((x : Int) + (4 + (t.n : Int))) = (x2 : Int) := by rw [u32id (by omega) (by omega)]; omega
                  have HX2 := Lib.hid hx2
                  have HWK : Hid (wrap64 ((k : Int) + 1) = ((k + 1 : Nat) : Int)) := Lib.hid (w64addN (b := 1) rfl (by have := HB1.out; omega))
                  clear ht hbt htn hsuc hx2 h1 h2 h3 hkn
                  obtain ⟨pv, cv, rfl, -⟩ := own_form HOW2.out
                  go_upto_region 44 with (fail)
                  clear hcl
                  go_wp2_with (at_builtin; refine (app_srcL rfl _ _ 28 25 .u32 4 rfl Try.underlying28 info25 (by decide) H8 (.slice pv k cv) k (atsC B C k) rfl (HOW2.out.alloc _) (some ⟨wr.heap.size, 0, none⟩) 1 1 [x] rfl rfl (fun h => by cases h) (fun ad h i y hy => by
                      cases h
                      rcases i with _ | i
                      · obtain rfl := Option.some.inj hy
                        rw [addr_at, row_cell (row_alloc_at _ _ _ _ rfl)]
                        rfl
                      · simp at hy) (by have := HKN.out; have := HB1.out; omega) (by have := HCK.out.size; have := HH8.out; simp; omega) ?_))
                  intro v9 w9 hx1 hx2 hx3
                  have HO9 : Hid (w9.ownsRow H8 25 1 v9 (k + 1) ((atsC B C (k + 1)).map fun x : Nat => Value.int .u32 (x : Int))) := Lib.hid (by rw [atsC_succ, ← HX.out, List.map_append]; exact hx1)
                  have HC9 : Hid (Chg [] w8 w9) := Lib.hid (chg_grown (HCK.out.alloc _) hx2 (fun k hk => by rw [← HH8.out]; exact (HOW2.out.lt k hk).1))
                  clear hx1 hx2 hx3
                  go_wp2_with fail
                  case roundEnd => exact ⟨⟨k + 1, HKN.out, by rw [HWK.out], by rw [← HX2.out], HO9.out, HC9.out⟩, by rw [HWK.out]; simp only [intOf, Int.toNat_natCast]; have := HKN.out; omega⟩
                · have dK : ¬ (k : Int) < (n1 : Int) := by omega
                  have hkn2 : k = n1 := by have := HK.out; omega
                  subst hkn2
                  clear hkn
                  obtain ⟨pz, cz, rfl, hpz⟩ := own_form HOW2.out
                  obtain ⟨gz, rfl, hgz⟩ := hpz (by have := HB1.out; omega)
                  have HGZ := Lib.hid hgz
                  clear hpz hgz
                  go_upto_block 8 with (fail)
                  obtain ⟨wa, hwa⟩ : ∃ w', w' = wr := ⟨_, rfl⟩
                  obtain rfl := hwa
                  go_wp2_with fail
                  go_loopw [189] (fun i wr => ∃ i' : Nat, i' ≤ k ∧ i = .int .i64 (i' : Int) ∧ wr = wa) (fun i _ => k - (intOf i).toNat)
                  case atStart => exact ⟨0, Nat.zero_le _, rfl, rfl⟩
                  case round =>
                    obtain ⟨r, hr, rfl, rfl⟩ := hrel
                    have HRK := Lib.hid hr
                    clear hr
                    by_cases hrn : r < k
                    · skip
                      have HRN := Lib.hid hrn
                      have dR : (r : Int) < (k : Int) := by omega
                      obtain ⟨m, hm⟩ : ∃ m, m = (r + 1) % k := ⟨_, rfl⟩
                      have hk0 : 0 < k := Nat.lt_of_le_of_lt (Nat.zero_le _) hrn
                      have hml : m < k := by rw [hm]; exact Nat.mod_lt _ hk0
                      have cr1 : wr.cell? ⟨gz, r, none⟩ = some (.int .u32 ((B + 256 + atC C r : Nat) : Int)) := cellsAt HOW2.out HGZ.out r _ (by rw [List.getElem?_map, atsC_get hrn]; rfl)
                      have cm1 : wr.cell? ⟨gz, m, none⟩ = some (.int .u32 ((B + 256 + atC C m : Nat) : Int)) := cellsAt HOW2.out HGZ.out m _ (by rw [List.getElem?_map, atsC_get hml]; rfl)
                      have hz := HLD.out r hrn
                      have hzv : M.valC k B C r = B + 256 + atC C m + 4 + r := by unfold M.valC; rw [hm]
                      obtain ⟨a, ha⟩ : ∃ a, a = B + 256 + atC C r := ⟨_, rfl⟩
                      obtain ⟨b, hb⟩ : ∃ b, b = B + 256 + atC C m := ⟨_, rfl⟩
                      rw [← ha] at cr1
                      rw [← hb] at cm1 hzv
                      rw [hzv] at hz
                      have hAr := HAB.out r (Nat.le_of_lt hrn)
                      have hAm := HAB.out m (Nat.le_of_lt hml)
                      have hq := HQB.out
                      have hk8 := HB1.out.2.1
                      obtain ⟨z, hzz⟩ : ∃ z, z = b + 4 + r := ⟨_, rfl⟩
                      rw [← hzz] at hz
                      have hao : a = (q + (256 + atC C r)) + 2147483648 := by omega
                      have hlo : q + (256 + atC C r) + 4 ≤ 65536 := by omega
                      obtain ⟨b4, hb4⟩ : ∃ x, x = b + 4 := ⟨_, rfl⟩
                      have hzb : b4 + r = z := by omega
                      have hz32 : z < 4294967296 := by omega
                      have hb32 : b4 < 4294967296 := by omega
                      have hr1 : r < 100 := by omega
                      have k0 : ¬ k = 0 := by omega
                      have k0' : ¬ (k : Int) = 0 := by omega
                      have hr2 : r < 100 := by omega
                      have HDEC : Hid (k - (r + 1) < k - r) := Lib.hid (by omega)
                      have e1 : IntKind.u32.wrap ((b : Int) + 4) = (b4 : Int) := u32addN (b := 4) hb4.symm hb32
                      have e2 : IntKind.u32.wrap ((b4 : Int) + (r : Int)) = (z : Int) := u32addN hzb hz32
                      obtain ⟨e4, e5⟩ := u32c r hr1
                      clear hb4 hzb hz32 hb32 hr1
                      have HWR : Hid (wrap64 ((r : Int) + 1) = ((r + 1 : Nat) : Int)) := Lib.hid (wrap1 r (Nat.lt_trans hr2 (by decide)))
                      have HCR := (M.load_ok g8 HB8.out a (q + (256 + atC C r)) 4 mb hao (.inr (.inr rfl)) hlo wr ((HCK.out.row HMB8.out (by simp)).trans HR8.out))
                      rw [hz] at HCR
                      have HCR2 := Lib.hid HCR
                      obtain ⟨r1, hr1e⟩ : ∃ x, x = r + 1 := ⟨_, rfl⟩
                      obtain ⟨e6t, -, e6, -⟩ := modc r k m hk0 hm
                      rw [← hr1e] at e6t
                      have e6 : (r1 : Int) % (k : Int) = (m : Int) := by rw [hr1e]; exact e6
                      have e7 : wrap64 ((r : Int) + 1) = (r1 : Int) := by rw [hr1e]; exact HWR.out
                      clear hm hk0 hz hzv ha hb hAr hAm hq hk8 hzz hao hlo HCR hrn e5 hr2 hr1e e6t
                      go_wp2_with fail
                      refine HCR2.out.mono ?_
                      rintro e w9 ⟨rfl, rfl⟩
                      clear cr1
                      go_wp2_with fail
                      case roundEnd => exact ⟨⟨r + 1, HRN.out, by rw [HWR.out], by trivial⟩, by rw [HWR.out]; simp only [intOf, Int.toNat_natCast]; exact HDEC.out⟩
                    · have dR : ¬ (r : Int) < (k : Int) := by omega
                      clear hrn
                      go_wp2
                      go_ret
                      exact ⟨rfl, HC8.out.trans HCK.out⟩
end Go.Proofs.L
