/- Proved here: lemmas and contracts (RefPlan) for the laws of this seat, for all values of the stated types; no further condition. -/
import Derived.Test.YtlceohlbpgcmpaaDoorRefPower
open Go Go.RowKit Go.Lib
namespace Go.Proofs.L
attribute [local irreducible] wpT
theorem wrapN2 (P : Nat) (h : P < 8589934592) : wrap64 ((P : Int) * 2) = ((P * 2 : Nat) : Int) := by rw [IntWalk.wrap64_in _ ⟨by omega, by omega⟩]; omega
set_option maxRecDepth 100000 in
set_option maxHeartbeats 8000000 in
theorem rplan_any {w : World} {p : Option Addr} {b o n c : Nat} {G : List Gr} (hG : GrsAt w b o G) (hn : G.length = n) (hp : 0 < n → p = some ⟨b, o, none⟩) (hn6 : n < 1000000) :
    Calls Tryd.prog 10 #[.slice p n c] w (PlanQ w G) := by
  have HG := Lib.hid hG
  have HN := Lib.hid hn
  have HP := Lib.hid hp
  have HN6 := Lib.hid hn6
  obtain ⟨i0, hi0, hz0, hz1, hz2⟩ := info_parts info32
  clear hG hn hp hn6
  go_enter Tryd.func10, Tryd.ntmps10
  go_wp2_with fail
  go_loopw [4, 5, 6, 7, 8, 9] (fun ov i _ _ _ _ wr => ∃ k : Nat, k ≤ n ∧ i = .int .i64 k ∧ wr.ownsRow w.heap.size 32 3 ov (manyN (G.take k)).length (flatE (manyN (G.take k))) ∧ Chg [] w wr ∧ (G.take k).all okG = true) (fun _ i _ _ _ _ _ => n - (intOf i).toNat)
  case atStart => exact ⟨0, by omega, rfl, World.ownsRow_nil _ _ _ _, Chg.refl _ _, rfl⟩
  case round =>
    obtain ⟨k, hk, rfl, hown, hch, hall⟩ := hrel
    have HO := Lib.hid hown
    have HC := Lib.hid hch
    have HALL := Lib.hid hall
    clear hown hch hall
    by_cases hk2 : k < n
    · have HK := Lib.hid hk2
      have HW : Hid (wrap64 ((k : Int) + 1) = ((k + 1 : Nat) : Int)) := Lib.hid (wrap1 k (by have := HN6.out; omega))
      obtain ⟨g, hg⟩ : ∃ g, G[k]? = some g := ⟨_, List.getElem?_eq_getElem (by have := HN.out; omega)⟩
      obtain ⟨c0, c1, c2, l0, l1⟩ := HG.out.keep HC.out k g hg
      have ht := take_succ' G k g hg
      have HT := Lib.hid ht
      have HGK := Lib.hid hg
      have hpp := HP.out (by omega)
      subst hpp
      obtain ⟨st, sz, rt⟩ := g
      simp only [] at c0 c1 c2 l0 l1
      have HL0 := Lib.hid l0
      have HL1 := Lib.hid l1
      obtain ⟨A, hA⟩ : ∃ A, A = st % 4 := ⟨_, rfl⟩
      obtain ⟨M, hM⟩ : ∃ A, A = sz % 4 := ⟨_, rfl⟩
      obtain ⟨T, hT⟩ : ∃ A, A = st + sz := ⟨_, rfl⟩
      have eA : (st : Int) % 4 = (A : Int) := by omega
      have eM : (sz : Int) % 4 = (M : Int) := by omega
      have eT : (st : Int) + (sz : Int) = (T : Int) := by omega
      have tA : (st : Int).tmod 4 = (A : Int) := by rw [Int.tmod_eq_emod_of_nonneg (by omega)]; exact eA
      have tM : (sz : Int).tmod 4 = (M : Int) := by rw [Int.tmod_eq_emod_of_nonneg (by omega)]; exact eM
      have HA := Lib.hid hA
      have HM := Lib.hid hM
      have HTT := Lib.hid hT
      have dk : decide ((k : Int) < (n : Int)) = true := by rw [decide_eq_true_eq]; omega
      have hkI : (k : Int) < (n : Int) := by omega
      have hbad : okG ⟨st, sz, rt⟩ = false → G.all okG = false := fun h => by
        rw [Bool.eq_false_iff]
        intro hh
        have := List.all_eq_true.1 hh _ (List.mem_of_getElem? HGK.out)
        rw [h] at this; cases this
      have HBAD := Lib.hid hbad
      clear ht hg hA hM hT hk2 hbad
      obtain ⟨b1, hb1⟩ : ∃ b1, b1 = wr.heap.size := ⟨_, rfl⟩
      obtain ⟨Y, hY⟩ : ∃ V, V = wr.alloc (.cells #[.int .u32 (st : Int), .int .u32 (sz : Int), .int .i64 rt] 36) := ⟨_, rfl⟩
      have ry : Y.row? b1 = some #[.int .u32 (st : Int), .int .u32 (sz : Int), .int .i64 rt] := by rw [hY]; exact row_alloc_at _ _ _ _ hb1
      have HCY : Hid (Chg [] w Y) := Lib.hid (by rw [hY]; exact HC.out.alloc _)
      have HOY : Hid (Y.ownsRow w.heap.size 32 3 u4 (manyN (G.take k)).length (flatE (manyN (G.take k)))) := Lib.hid (by rw [hY]; exact HO.out.alloc _)
      have HRY := Lib.hid ry
      have HB1 := Lib.hid hb1
      have HY := Lib.hid hY
      clear ry hb1 hY
      go_upto_region 6 with (fail)
      rw [← HB1.out, ← HY.out]
      clear c0 c1 c2 HB1 HY
      refine wp_region_C (fun w' => w'.cell? ⟨b1, 0, none⟩ = some (.int .u32 (st : Int)) ∧ w'.cell? ⟨b1, 1, none⟩ = some (.int .u32 (sz : Int))) [(0, 0), (1, 1), (2, 0), (3, 0), (4, 1), (5, 0), (6, 0), (7, 0)] rfl (by kernel_rfl) ?hSA ?hTA
      case hSA => exact ⟨by show Y.cell? _ = _; rw [row_cell HRY.out]; rfl, by show Y.cell? _ = _; rw [row_cell HRY.out]; rfl⟩
      refine wpT_pureD (v := ?_) (some 20) rfl rfl (by rfl) (fun w' => ?_) ?_
      rotate_left
      · (go_simp; try with_reducible rfl)
      try simp only [Act.put, List.setIfInBounds_toArray, List.set_cons_zero, List.set_cons_succ]
      refine wpT_readD (v := ?_) (some 21) rfl rfl (by rfl) (fun w' hw => ?_) ?_
      rotate_left
      · (obtain ⟨q0, q1⟩ := hw; go_simp; try with_reducible rfl)
      try simp only [Act.put, List.setIfInBounds_toArray, List.set_cons_zero, List.set_cons_succ]
      refine wpT_pureD (v := ?_) (some 22) rfl rfl (by rfl) (fun w' => ?_) ?_
      rotate_left
      · (go_simp; try with_reducible rfl)
      try simp only [Act.put, List.setIfInBounds_toArray, List.set_cons_zero, List.set_cons_succ]
      refine wpT_pureD (v := ?_) (some 23) rfl rfl (by rfl) (fun w' => ?_) ?_
      rotate_left
      · (go_simp; try with_reducible rfl)
      try simp only [Act.put, List.setIfInBounds_toArray, List.set_cons_zero, List.set_cons_succ]
      refine wpT_readD (v := ?_) (some 24) rfl rfl (by rfl) (fun w' hw => ?_) ?_
      rotate_left
      · (obtain ⟨q0, q1⟩ := hw; go_simp; try with_reducible rfl)
      try simp only [Act.put, List.setIfInBounds_toArray, List.set_cons_zero, List.set_cons_succ]
      refine wpT_pureD (v := ?_) (some 25) rfl rfl (by rfl) (fun w' => ?_) ?_
      rotate_left
      · (go_simp; try with_reducible rfl)
      try simp only [Act.put, List.setIfInBounds_toArray, List.set_cons_zero, List.set_cons_succ]
      refine wpT_pureD (v := ?_) (some 7) rfl rfl (by rfl) (fun w' => ?_) ?_
      rotate_left
      · (go_simp; try with_reducible rfl)
      try simp only [Act.put, List.setIfInBounds_toArray, List.set_cons_zero, List.set_cons_succ]
      refine wpT_pureD (v := ?_) (some 8) rfl rfl (by rfl) (fun w' => ?_) ?_
      rotate_left
      · (go_simp; try with_reducible rfl)
      try simp only [Act.put, List.setIfInBounds_toArray, List.set_cons_zero, List.set_cons_succ]
      refine wpT_end ?_
      obtain ⟨Z, hZ⟩ : ∃ Z, Z = Y.drew := ⟨_, rfl⟩
      have HCZ : Hid (Chg [] w Z) := Lib.hid (by rw [hZ]; exact HCY.out.drew)
      have HOZ0 : Hid (Z.ownsRow w.heap.size 32 3 u4 (manyN (G.take k)).length (flatE (manyN (G.take k)))) := Lib.hid (by rw [hZ]; exact HOY.out.drew)
      have z2 : Z.cell? ⟨b1, 2, none⟩ = some (.int .i64 rt) := by rw [hZ]; show Y.cell? _ = _; rw [row_cell HRY.out]; rfl
      rw [← hZ]
      clear hZ
      by_cases q0 : A = 0
      rotate_left
      · have n0 : ((A : Int) != 0) = true := by rw [bne_iff_ne]; omega
        have hb : okG ⟨st, sz, rt⟩ = false := by
          have := HA.out; have := HM.out; have := HTT.out
          rw [Bool.eq_false_iff]
          intro hh
          simp only [okG, Bool.and_eq_true, decide_eq_true_eq] at hh
          omega
        have HB := Lib.hid (HBAD.out hb)
        clear hb
        go_wp2
        go_ret2
        exact ⟨HCZ.out, .inl ⟨HB.out, rfl⟩⟩
      have n0 : ((A : Int) != 0) = false := by rw [Bool.eq_false_iff]; simp; omega
      by_cases q1 : M = 0
      rotate_left
      · have n1 : ((M : Int) != 0) = true := by rw [bne_iff_ne]; omega
        have hb : okG ⟨st, sz, rt⟩ = false := by
          have := HA.out; have := HM.out; have := HTT.out
          rw [Bool.eq_false_iff]
          intro hh
          simp only [okG, Bool.and_eq_true, decide_eq_true_eq] at hh
          omega
        have HB := Lib.hid (HBAD.out hb)
        clear hb
        go_wp2
        go_ret2
        exact ⟨HCZ.out, .inl ⟨HB.out, rfl⟩⟩
      have n1 : ((M : Int) != 0) = false := by rw [Bool.eq_false_iff]; simp; omega
      by_cases q2 : sz ≠ 0
      rotate_left
      · have n2 : ((sz : Int) == 0) = true := by rw [beq_iff_eq]; omega
        have hb : okG ⟨st, sz, rt⟩ = false := by
          have := HA.out; have := HM.out; have := HTT.out
          rw [Bool.eq_false_iff]
          intro hh
          simp only [okG, Bool.and_eq_true, decide_eq_true_eq] at hh
          omega
        have HB := Lib.hid (HBAD.out hb)
        clear hb
        go_wp2
        go_ret2
        exact ⟨HCZ.out, .inl ⟨HB.out, rfl⟩⟩
      have n2 : ((sz : Int) == 0) = false := by rw [Bool.eq_false_iff]; simp; omega
      by_cases q3 : T ≤ 4294967296
      rotate_left
      · have n3 : decide ((4294967296 : Int) < (T : Int)) = true := by rw [decide_eq_true_eq]; omega
        have hb : okG ⟨st, sz, rt⟩ = false := by
          have := HA.out; have := HM.out; have := HTT.out
          rw [Bool.eq_false_iff]
          intro hh
          simp only [okG, Bool.and_eq_true, decide_eq_true_eq] at hh
          omega
        have HB := Lib.hid (HBAD.out hb)
        clear hb
        go_wp2
        go_ret2
        exact ⟨HCZ.out, .inl ⟨HB.out, rfl⟩⟩
      have n3 : decide ((4294967296 : Int) < (T : Int)) = false := by rw [decide_eq_false_iff_not]; omega
      by_cases q4 : 1 ≤ rt
      rotate_left
      · have n4 : decide (rt < 1) = true := by rw [decide_eq_true_eq]; omega
        have hb : okG ⟨st, sz, rt⟩ = false := by
          have := HA.out; have := HM.out; have := HTT.out
          rw [Bool.eq_false_iff]
          intro hh
          simp only [okG, Bool.and_eq_true, decide_eq_true_eq] at hh
          omega
        have HB := Lib.hid (HBAD.out hb)
        clear hb
        go_wp2
        go_ret2
        exact ⟨HCZ.out, .inl ⟨HB.out, rfl⟩⟩
      have n4 : decide (rt < 1) = false := by rw [decide_eq_false_iff_not]; omega
      by_cases q5 : rt ≤ 7
      rotate_left
      · have n5 : decide (7 < rt) = true := by rw [decide_eq_true_eq]; omega
        have hb : okG ⟨st, sz, rt⟩ = false := by
          have := HA.out; have := HM.out; have := HTT.out
          rw [Bool.eq_false_iff]
          intro hh
          simp only [okG, Bool.and_eq_true, decide_eq_true_eq] at hh
          omega
        have HB := Lib.hid (HBAD.out hb)
        clear hb
        go_wp2
        go_ret2
        exact ⟨HCZ.out, .inl ⟨HB.out, rfl⟩⟩
      have n5 : decide (7 < rt) = false := by rw [decide_eq_false_iff_not]; omega
      have hok : okG ⟨st, sz, rt⟩ = true := by
        have := HA.out; have := HM.out; have := HTT.out
        simp only [okG, Bool.and_eq_true, decide_eq_true_eq]
        omega
      have HOK := Lib.hid hok
      clear hok
      obtain ⟨po, co, rfl, _⟩ := own_form HOZ0.out
      have HML := Lib.hid (many_len (G.take k))
      have HKN : Hid ((G.take k).length ≤ 1000000) := Lib.hid (by rw [List.length_take]; have := HN6.out; have := HK.out; omega)
      obtain ⟨m0, hm0⟩ : ∃ m0, m0 = (manyN (G.take k)).length := ⟨_, rfl⟩
      have HOZ := HOZ0
      rw [← hm0] at HOZ HML ⊢
      have HM0 := Lib.hid hm0
      clear hm0 HOZ0
      go_wp2_with fail
      go_loopw [9] (fun pv wr' => ∃ j : Nat, pv = .int .i64 (4 * 2 ^ j : Nat) ∧ (j = 0 ∨ 2 * 2 ^ j < sz) ∧ wr' = Z) (fun pv _ => 2 * sz - (intOf pv).toNat)
      case atStart => exact ⟨0, rfl, .inl rfl, rfl⟩
      case round =>
        obtain ⟨j, rfl, hj, hwz⟩ := hrel
        obtain rfl := hwz.symm
        obtain ⟨P, hP⟩ : ∃ P, P = 4 * 2 ^ j := ⟨_, rfl⟩
        rw [← hP]
        have HP := Lib.hid hP
        have HJ := Lib.hid hj
        have hPl : P < 8589934592 := by have := HL1.out; rcases hj with rfl | h <;> omega
        have hP0 : 0 < P := by have := Nat.two_pow_pos j; omega
        by_cases hlt : P < sz
        · have g7 : decide ((P : Int) < (sz : Int)) = true := by rw [decide_eq_true_eq]; omega
          have w7 : wrap64 ((P : Int) * 2) = ((P * 2 : Nat) : Int) := wrapN2 P hPl
          have HP2 : Hid (P * 2 = 4 * 2 ^ (j + 1)) := Lib.hid (by rw [hP, Nat.pow_succ]; omega)
          have HLT := Lib.hid hlt
          have HW7 := Lib.hid w7
          clear w7
          have HP00 := Lib.hid hP0
          clear hP hj hP0
          go_wp2_with fail
          refine ⟨⟨j + 1, by rw [show ((P : Int) * 2) = ((4 * 2 ^ (j + 1) : Nat) : Int) by have := HP2.out; omega], .inr (by have := HP2.out; have := HLT.out; omega), by first | rfl | trivial⟩, by simp only [intOf]; have := HLT.out; have := HP00.out; omega⟩
        · have g7 : decide ((P : Int) < (sz : Int)) = false := by rw [decide_eq_false_iff_not]; omega
          have hpow := pow_found sz j (by omega) (by rcases hj with h | h; exact .inl h; exact .inr h) q2 (by have := HM.out; omega)
          rw [← hP] at hpow
          have HONEQ := Lib.hid (one_ref st sz rt P HL1.out (by have := HM.out; omega) hpow)
          clear hP hj hPl hP0 hpow
          obtain ⟨q, hq⟩ : ∃ q, q = st / 4 := ⟨_, rfl⟩
          have r1 : (st : Int) / 4 = (q : Int) := by omega
          have r1' : (st : Int).tdiv 4 = (q : Int) := by rw [Int.tdiv_eq_ediv_of_nonneg (by omega)]; exact r1
          have r2 : IntKind.u32.wrap (q : Int) = (q : Int) := by have := HL0.out; rw [u32w]; omega
          rw [← hq] at HONEQ
          by_cases s4 : sz = 4
          · subst s4
            clear hq
            have hone : oneN ⟨st, 4, rt⟩ = [(⟨2, rt, q⟩ : Ent)] := by rw [HONEQ.out, if_pos rfl]
            obtain ⟨b2, hb2⟩ : ∃ b2, b2 = Z.heap.size := ⟨_, rfl⟩
            obtain ⟨w2, hw2⟩ : ∃ V, V = Z.alloc (.cells #[.int .i64 2, .int .i64 rt, .int .u32 (q : Int)] 32) := ⟨_, rfl⟩
            have hrow : w2.row? b2 = some (flatE [(⟨2, rt, q⟩ : Ent)]).toArray := by rw [hw2]; exact row_alloc_at _ _ _ _ hb2
            have HX := Lib.hid (news_row hrow)
            have HX1 := Lib.hid (flatE_one [(⟨2, rt, q⟩ : Ent)])
            have HC2 : Hid (Chg [] w w2) := Lib.hid (by rw [hw2]; exact HCZ.out.alloc _)
            have HO2 : Hid (w2.ownsRow w.heap.size 32 3 (.slice po m0 co) m0 (flatE (manyN (G.take k)))) := Lib.hid (by rw [hw2]; exact HOZ.out.alloc _)
            have HSZ : Hid (w.heap.size ≤ w2.heap.size) := Lib.hid HC2.out.size
            have HW2 := Lib.hid hw2
            have HB2 := Lib.hid hb2
            have HONE := Lib.hid hone
            clear hrow hw2 hb2 hone
            go_wp2_with (at_builtin; rw [← HB2.out, ← HW2.out]; refine wpList_append_own _ rfl _ _ 24 rfl w.heap.size 32 i0 (.agg #[.int .i64 0, .int .i64 0, .int .u32 0]) 3 24 Tryd.underlying24 hi0 hz0 hz1 hz2 rfl (by decide) (.slice po m0 co) m0 (flatE (manyN (G.take k))) rfl HO2.out ⟨b2, 0, none⟩ 1 1 (flatE [(⟨2, rt, q⟩ : Ent)]) rfl rfl HX.out HX1.out (by have := HML.out; have := HKN.out; unfold maxLen; omega) (by have := HML.out; have := HKN.out; omega) HSZ.out ?_)
            intro v' W5 hx1 hx2 hx3
            clear hx3
            have HC5 : Hid (Chg [] w W5) := Lib.hid (chg_grown HC2.out hx2 (fun x hx => (HO2.out.lt x hx).1))
            have hm : manyN (G.take (k + 1)) = manyN (G.take k) ++ [(⟨2, rt, q⟩ : Ent)] := by rw [HT.out, ← HONE.out]; unfold manyN; rw [List.flatMap_append]; simp
            have HO5 : Hid (W5.ownsRow w.heap.size 32 3 v' (manyN (G.take (k + 1))).length (flatE (manyN (G.take (k + 1))))) := Lib.hid (by
              rw [hm, List.length_append, flatE_app, ← HM0.out]; exact hx1)
            have HALL2 : Hid ((G.take (k + 1)).all okG = true) := Lib.hid (by rw [HT.out, List.all_append, HALL.out]; simp [HOK.out])
            clear hx1 hx2 hm
            go_wp2
            case roundEnd => exact ⟨⟨k + 1, HK.out, by rw [HW.out], HO5.out, HC5.out, HALL2.out⟩, by rw [HW.out]; simp only [intOf, Int.toNat_natCast]; have := HK.out; omega⟩
          have s5 : ((sz : Int) == 4) = false := by rw [Bool.eq_false_iff]; simp; omega
          by_cases s6 : P = sz
          · by_cases s7 : st % sz = 0
            · have f1 : ((P : Int) == (sz : Int)) = true := by rw [beq_iff_eq]; omega
              have f2 : (st : Int) % (sz : Int) = 0 := by omega
              have f2' : (st : Int).tmod (sz : Int) = 0 := by rw [Int.tmod_eq_emod_of_nonneg (by omega)]; exact f2
              obtain ⟨y, hy⟩ : ∃ y, y = q + sz / 8 - 1 := ⟨_, rfl⟩
              obtain ⟨e, he⟩ : ∃ y, y = sz / 8 := ⟨_, rfl⟩
              have f3 : (sz : Int) / 8 = (e : Int) := by omega
              have f3' : (sz : Int).tdiv 8 = (e : Int) := by rw [Int.tdiv_eq_ediv_of_nonneg (by omega)]; exact f3
              have he1 : 1 ≤ e := by have := HM.out; omega
              have f4 : q < 1073741824 := by omega
              have f44 : e < 536870912 := by omega
              have f5 : (q : Int) + (e : Int) - 1 = (y : Int) := by omega
              have f6 : IntKind.u32.wrap (y : Int) = (y : Int) := by have := HL0.out; have := HL1.out; rw [u32w]; omega
              have HQY := Lib.hid hy
              have HS6 := Lib.hid s6
              have HS7 := Lib.hid s7
              clear hq hy he
              have hone : oneN ⟨st, sz, rt⟩ = [(⟨3, rt, y⟩ : Ent)] := by rw [HONEQ.out, if_neg s4, if_pos ⟨HS6.out, HS7.out⟩, ← HQY.out]
              obtain ⟨b2, hb2⟩ : ∃ b2, b2 = Z.heap.size := ⟨_, rfl⟩
              obtain ⟨w2, hw2⟩ : ∃ V, V = Z.alloc (.cells #[.int .i64 3, .int .i64 rt, .int .u32 (y : Int)] 32) := ⟨_, rfl⟩
              have hrow : w2.row? b2 = some (flatE [(⟨3, rt, y⟩ : Ent)]).toArray := by rw [hw2]; exact row_alloc_at _ _ _ _ hb2
              have HX := Lib.hid (news_row hrow)
              have HX1 := Lib.hid (flatE_one [(⟨3, rt, y⟩ : Ent)])
              have HC2 : Hid (Chg [] w w2) := Lib.hid (by rw [hw2]; exact HCZ.out.alloc _)
              have HO2 : Hid (w2.ownsRow w.heap.size 32 3 (.slice po m0 co) m0 (flatE (manyN (G.take k)))) := Lib.hid (by rw [hw2]; exact HOZ.out.alloc _)
              have HSZ : Hid (w.heap.size ≤ w2.heap.size) := Lib.hid HC2.out.size
              have HW2 := Lib.hid hw2
              have HB2 := Lib.hid hb2
              have HONE := Lib.hid hone
              clear hrow hw2 hb2 hone
              go_wp2_with (at_builtin; rw [← HB2.out, ← HW2.out]; refine wpList_append_own _ rfl _ _ 24 rfl w.heap.size 32 i0 (.agg #[.int .i64 0, .int .i64 0, .int .u32 0]) 3 24 Tryd.underlying24 hi0 hz0 hz1 hz2 rfl (by decide) (.slice po m0 co) m0 (flatE (manyN (G.take k))) rfl HO2.out ⟨b2, 0, none⟩ 1 1 (flatE [(⟨3, rt, y⟩ : Ent)]) rfl rfl HX.out HX1.out (by have := HML.out; have := HKN.out; unfold maxLen; omega) (by have := HML.out; have := HKN.out; omega) HSZ.out ?_)
              intro v' W5 hx1 hx2 hx3
              clear hx3
              have HC5 : Hid (Chg [] w W5) := Lib.hid (chg_grown HC2.out hx2 (fun x hx => (HO2.out.lt x hx).1))
              have hm : manyN (G.take (k + 1)) = manyN (G.take k) ++ [(⟨3, rt, y⟩ : Ent)] := by rw [HT.out, ← HONE.out]; unfold manyN; rw [List.flatMap_append]; simp
              have HO5 : Hid (W5.ownsRow w.heap.size 32 3 v' (manyN (G.take (k + 1))).length (flatE (manyN (G.take (k + 1))))) := Lib.hid (by
                rw [hm, List.length_append, flatE_app, ← HM0.out]; exact hx1)
              have HALL2 : Hid ((G.take (k + 1)).all okG = true) := Lib.hid (by rw [HT.out, List.all_append, HALL.out]; simp [HOK.out])
              clear hx1 hx2 hm
              go_wp2
              case roundEnd => exact ⟨⟨k + 1, HK.out, by rw [HW.out], HO5.out, HC5.out, HALL2.out⟩, by rw [HW.out]; simp only [intOf, Int.toNat_natCast]; have := HK.out; omega⟩
            · have f1 : ((P : Int) == (sz : Int)) = true := by rw [beq_iff_eq]; omega
              obtain ⟨r, hr⟩ : ∃ r, r = st % sz := ⟨_, rfl⟩
              have f2 : (st : Int) % (sz : Int) = (r : Int) := by rw [hr]; rfl
              have f2' : (st : Int).tmod (sz : Int) = (r : Int) := by rw [Int.tmod_eq_emod_of_nonneg (by omega)]; exact f2
              have f4 : ((r : Int) == 0) = false := by rw [Bool.eq_false_iff]; simp; omega
              have HS7 := Lib.hid s7
              have f5 : r ≠ 0 := by omega
              clear hr s7
              obtain ⟨y, hy⟩ : ∃ y, y = (st + sz) / 4 := ⟨_, rfl⟩
              have f3 : (T : Int) / 4 = (y : Int) := by have := HTT.out; omega
              have f3' : (T : Int).tdiv 4 = (y : Int) := by rw [Int.tdiv_eq_ediv_of_nonneg (by omega)]; exact f3
              have f6 : IntKind.u32.wrap (y : Int) = (y : Int) := by have := HL0.out; have := HL1.out; rw [u32w]; omega
              have HQY := Lib.hid hy
              clear hq hy
              have hone : oneN ⟨st, sz, rt⟩ = [(⟨0, 0, q⟩ : Ent), ⟨1, rt, y⟩] := by rw [HONEQ.out, if_neg s4, if_neg (fun h => HS7.out h.2), ← HQY.out]
              obtain ⟨b2, hb2⟩ : ∃ b2, b2 = Z.heap.size := ⟨_, rfl⟩
              obtain ⟨w2, hw2⟩ : ∃ V, V = Z.alloc (.cells #[.int .i64 0, .int .i64 0, .int .u32 (q : Int), .int .i64 1, .int .i64 rt, .int .u32 (y : Int)] 32) := ⟨_, rfl⟩
              have hrow : w2.row? b2 = some (flatE [(⟨0, 0, q⟩ : Ent), ⟨1, rt, y⟩]).toArray := by rw [hw2]; exact row_alloc_at _ _ _ _ hb2
              have HX := Lib.hid (news_row hrow)
              have HX1 := Lib.hid (flatE_one [(⟨0, 0, q⟩ : Ent), ⟨1, rt, y⟩])
              have HC2 : Hid (Chg [] w w2) := Lib.hid (by rw [hw2]; exact HCZ.out.alloc _)
              have HO2 : Hid (w2.ownsRow w.heap.size 32 3 (.slice po m0 co) m0 (flatE (manyN (G.take k)))) := Lib.hid (by rw [hw2]; exact HOZ.out.alloc _)
              have HSZ : Hid (w.heap.size ≤ w2.heap.size) := Lib.hid HC2.out.size
              have HW2 := Lib.hid hw2
              have HB2 := Lib.hid hb2
              have HONE := Lib.hid hone
              clear hrow hw2 hb2 hone
              go_wp2_with (at_builtin; rw [← HB2.out, ← HW2.out]; refine wpList_append_own _ rfl _ _ 24 rfl w.heap.size 32 i0 (.agg #[.int .i64 0, .int .i64 0, .int .u32 0]) 3 24 Tryd.underlying24 hi0 hz0 hz1 hz2 rfl (by decide) (.slice po m0 co) m0 (flatE (manyN (G.take k))) rfl HO2.out ⟨b2, 0, none⟩ 2 2 (flatE [(⟨0, 0, q⟩ : Ent), ⟨1, rt, y⟩]) rfl rfl HX.out HX1.out (by have := HML.out; have := HKN.out; unfold maxLen; omega) (by have := HML.out; have := HKN.out; omega) HSZ.out ?_)
              intro v' W5 hx1 hx2 hx3
              clear hx3
              have HC5 : Hid (Chg [] w W5) := Lib.hid (chg_grown HC2.out hx2 (fun x hx => (HO2.out.lt x hx).1))
              have hm : manyN (G.take (k + 1)) = manyN (G.take k) ++ [(⟨0, 0, q⟩ : Ent), ⟨1, rt, y⟩] := by rw [HT.out, ← HONE.out]; unfold manyN; rw [List.flatMap_append]; simp
              have HO5 : Hid (W5.ownsRow w.heap.size 32 3 v' (manyN (G.take (k + 1))).length (flatE (manyN (G.take (k + 1))))) := Lib.hid (by
                rw [hm, List.length_append, flatE_app, ← HM0.out]; exact hx1)
              have HALL2 : Hid ((G.take (k + 1)).all okG = true) := Lib.hid (by rw [HT.out, List.all_append, HALL.out]; simp [HOK.out])
              clear hx1 hx2 hm
              go_wp2
              case roundEnd => exact ⟨⟨k + 1, HK.out, by rw [HW.out], HO5.out, HC5.out, HALL2.out⟩, by rw [HW.out]; simp only [intOf, Int.toNat_natCast]; have := HK.out; omega⟩
          · have f1 : ((P : Int) == (sz : Int)) = false := by rw [Bool.eq_false_iff]; simp; omega
            obtain ⟨y, hy⟩ : ∃ y, y = (st + sz) / 4 := ⟨_, rfl⟩
            have f3 : (T : Int) / 4 = (y : Int) := by have := HTT.out; omega
            have f3' : (T : Int).tdiv 4 = (y : Int) := by rw [Int.tdiv_eq_ediv_of_nonneg (by omega)]; exact f3
            have f6 : IntKind.u32.wrap (y : Int) = (y : Int) := by have := HL0.out; have := HL1.out; rw [u32w]; omega
            have HQY := Lib.hid hy
            clear hq hy
            have hone : oneN ⟨st, sz, rt⟩ = [(⟨0, 0, q⟩ : Ent), ⟨1, rt, y⟩] := by rw [HONEQ.out, if_neg s4, if_neg (fun h => s6 h.1), ← HQY.out]
            obtain ⟨b2, hb2⟩ : ∃ b2, b2 = Z.heap.size := ⟨_, rfl⟩
            obtain ⟨w2, hw2⟩ : ∃ V, V = Z.alloc (.cells #[.int .i64 0, .int .i64 0, .int .u32 (q : Int), .int .i64 1, .int .i64 rt, .int .u32 (y : Int)] 32) := ⟨_, rfl⟩
            have hrow : w2.row? b2 = some (flatE [(⟨0, 0, q⟩ : Ent), ⟨1, rt, y⟩]).toArray := by rw [hw2]; exact row_alloc_at _ _ _ _ hb2
            have HX := Lib.hid (news_row hrow)
            have HX1 := Lib.hid (flatE_one [(⟨0, 0, q⟩ : Ent), ⟨1, rt, y⟩])
            have HC2 : Hid (Chg [] w w2) := Lib.hid (by rw [hw2]; exact HCZ.out.alloc _)
            have HO2 : Hid (w2.ownsRow w.heap.size 32 3 (.slice po m0 co) m0 (flatE (manyN (G.take k)))) := Lib.hid (by rw [hw2]; exact HOZ.out.alloc _)
            have HSZ : Hid (w.heap.size ≤ w2.heap.size) := Lib.hid HC2.out.size
            have HW2 := Lib.hid hw2
            have HB2 := Lib.hid hb2
            have HONE := Lib.hid hone
            clear hrow hw2 hb2 hone
            go_wp2_with (at_builtin; rw [← HB2.out, ← HW2.out]; refine wpList_append_own _ rfl _ _ 24 rfl w.heap.size 32 i0 (.agg #[.int .i64 0, .int .i64 0, .int .u32 0]) 3 24 Tryd.underlying24 hi0 hz0 hz1 hz2 rfl (by decide) (.slice po m0 co) m0 (flatE (manyN (G.take k))) rfl HO2.out ⟨b2, 0, none⟩ 2 2 (flatE [(⟨0, 0, q⟩ : Ent), ⟨1, rt, y⟩]) rfl rfl HX.out HX1.out (by have := HML.out; have := HKN.out; unfold maxLen; omega) (by have := HML.out; have := HKN.out; omega) HSZ.out ?_)
            intro v' W5 hx1 hx2 hx3
            clear hx3
            have HC5 : Hid (Chg [] w W5) := Lib.hid (chg_grown HC2.out hx2 (fun x hx => (HO2.out.lt x hx).1))
            have hm : manyN (G.take (k + 1)) = manyN (G.take k) ++ [(⟨0, 0, q⟩ : Ent), ⟨1, rt, y⟩] := by rw [HT.out, ← HONE.out]; unfold manyN; rw [List.flatMap_append]; simp
            have HO5 : Hid (W5.ownsRow w.heap.size 32 3 v' (manyN (G.take (k + 1))).length (flatE (manyN (G.take (k + 1))))) := Lib.hid (by
              rw [hm, List.length_append, flatE_app, ← HM0.out]; exact hx1)
            have HALL2 : Hid ((G.take (k + 1)).all okG = true) := Lib.hid (by rw [HT.out, List.all_append, HALL.out]; simp [HOK.out])
            clear hx1 hx2 hm
            go_wp2
            case roundEnd => exact ⟨⟨k + 1, HK.out, by rw [HW.out], HO5.out, HC5.out, HALL2.out⟩, by rw [HW.out]; simp only [intOf, Int.toNat_natCast]; have := HK.out; omega⟩
    · obtain rfl : k = n := by omega
      have hfull : G.take k = G := List.take_of_length_le (by have := HN.out; omega)
      have HO1 := HO.out
      have HA1 := HALL.out
      rw [hfull] at HO1 HA1
      have HO := Lib.hid HO1
      have HALL := Lib.hid HA1
      clear hfull HO1 HA1
      obtain ⟨po, co, rfl, _⟩ := own_form HO.out
      have dk : decide ((k : Int) < (k : Int)) = false := by simp
      obtain ⟨b1, hb1⟩ : ∃ b1, b1 = wr.heap.size := ⟨_, rfl⟩
      obtain ⟨V, hV⟩ : ∃ V, V = wr.alloc (.cells #[.int .i64 3, .int .i64 0, .int .u32 536870911] 32) := ⟨_, rfl⟩
      have hcv : Chg [] w V := by rw [hV]; exact HC.out.alloc _
      have HOV : Hid (V.ownsRow w.heap.size 32 3 (.slice po (manyN G).length co) (manyN G).length (flatE (manyN G))) := Lib.hid (by rw [hV]; exact HO.out.alloc _)
      have hrow : V.row? b1 = some (flatE [lastE]).toArray := by rw [hV]; exact row_alloc_at _ _ _ _ hb1
      have HX := Lib.hid (news_row hrow)
      have HCV := Lib.hid hcv
      have HML := Lib.hid (many_len G)
      have HONE := Lib.hid (flatE_one [lastE])
      have HVV := Lib.hid hV
      have HB1 := Lib.hid hb1
      clear hV hcv hrow hb1
      have HSZ : Hid (w.heap.size ≤ V.heap.size) := Lib.hid HCV.out.size
      go_upto_region 17 with (fail)
      obtain ⟨m0, hm0⟩ : ∃ m0, m0 = (manyN G).length := ⟨_, rfl⟩
      rw [← hm0]
      have HM0 := Lib.hid hm0
      have HOV2 := HOV.out
      rw [← hm0] at HOV2
      have HOV := Lib.hid HOV2
      clear hm0 HOV2
      go_wp2_with (at_builtin; rw [← HB1.out, ← HVV.out]; refine wpList_append_own _ rfl _ _ 24 rfl w.heap.size 32 i0 (.agg #[.int .i64 0, .int .i64 0, .int .u32 0]) 3 24 Tryd.underlying24 hi0 hz0 hz1 hz2 rfl (by decide) (.slice po m0 co) m0 (flatE (manyN G)) rfl HOV.out ⟨b1, 0, none⟩ 1 1 (flatE [lastE]) rfl rfl HX.out HONE.out (by have := HML.out; have := HM0.out; have := HN.out; have := HN6.out; unfold maxLen; omega) (by have := HML.out; have := HM0.out; have := HN.out; have := HN6.out; omega) HSZ.out ?_)
      intro v' W5 hx1 hx2 hx3
      clear hx3
      obtain ⟨pv, cv, rfl, hpv⟩ := own_form hx1
      have hC5 : Chg [] w W5 := chg_grown HCV.out hx2 (fun x hx => (HOV.out.lt x hx).1)
      have HC5 := Lib.hid hC5
      have hlen : m0 + 1 = (outN G).length := by rw [HM0.out]; unfold outN; rw [List.length_append]; rfl
      have hO5 : W5.ownsRow w.heap.size 32 3 (.slice pv (m0 + 1) cv) (outN G).length (flatE (outN G)) := by
        have := hx1
        rw [← flatE_app] at this
        rw [← hlen]; exact this
      have HO5 := Lib.hid hO5
      obtain ⟨m1, hm1⟩ : ∃ m1, m1 = m0 + 1 := ⟨_, rfl⟩
      rw [← hm1] at HO5
      have HM1 : Hid (m1 = (outN G).length) := Lib.hid (hm1.trans hlen)
      rw [← hm1]
      clear hx1 hx2 hC5 hlen hO5 hm1 hpv
      by_cases h16 : 16 < m1
      · have d1 : decide ((16 : Int) < (m1 : Int)) = true := by rw [decide_eq_true_eq]; omega
        go_wp2
        go_ret2
        exact ⟨HC5.out, .inr (.inl ⟨HALL.out, by rw [← HM1.out]; exact h16, rfl⟩)⟩
      · have d1 : decide ((16 : Int) < (m1 : Int)) = false := by rw [decide_eq_false_iff_not]; omega
        go_wp2
        go_ret2
        exact ⟨HC5.out, .inr (.inr ⟨HALL.out, by rw [← HM1.out]; omega, _, rfl, HO5.out⟩)⟩
end Go.Proofs.L
