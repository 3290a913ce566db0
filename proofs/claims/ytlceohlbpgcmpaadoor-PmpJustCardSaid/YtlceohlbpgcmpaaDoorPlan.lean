/- Proved here: lemmas and contracts (Plan) for the laws of this seat, for all values of the stated types; no further condition. -/
import Derived.Test.YtlceohlbpgcmpaaDoorOne
import Derived.Test.YtlceohlbpgcmpaaDoorOwn
open Go Go.RowKit Go.Lib
namespace Go.Proofs.L
attribute [local irreducible] wpT
def okG (g : Gr) : Bool := decide (g.start % 4 = 0) && decide (g.size % 4 = 0) && decide (g.size ≠ 0) && decide (g.start + g.size ≤ 4294967296) && decide (1 ≤ g.rights) && decide (g.rights ≤ 7)
structure GrAt (w : World) (b o : Nat) (g : Gr) : Prop where
  c0 : w.cell? ⟨b, o, none⟩ = some (.int .u32 (g.start : Int))
  c1 : w.cell? ⟨b, o + 1, none⟩ = some (.int .u32 (g.size : Int))
  c2 : w.cell? ⟨b, o + 2, none⟩ = some (.int .i64 g.rights)
  l0 : g.start < 4294967296
  l1 : g.size < 4294967296
def GrsAt (w : World) (b o : Nat) (G : List Gr) : Prop := ∀ j g, G[j]? = some g → GrAt w b (o + j * 3) g
theorem GrsAt.keep {w w' : World} {b o : Nat} {G : List Gr} (h : GrsAt w b o G) (hc : Chg [] w w') : GrsAt w' b o G := fun j g hg => by
  obtain ⟨a0, a1, a2, l0, l1⟩ := h j g hg
  have hb : b < w.heap.size := World.block_lt_of_cell? w _ a0
  have e : ∀ i, w'.cell? ⟨b, i, none⟩ = w.cell? ⟨b, i, none⟩ := fun i => World.cell?_of_block (hc.block b hb (by simp))
  exact ⟨by rw [e]; exact a0, by rw [e]; exact a1, by rw [e]; exact a2, l0, l1⟩
def manyN (G : List Gr) : List Ent := G.flatMap oneN
def lastE : Ent := ⟨3, 0, 536870911⟩
def outN (G : List Gr) : List Ent := manyN G ++ [lastE]
theorem flatE_len (L : List Ent) : (flatE L).length = L.length * 3 := by
  unfold flatE
  induction L with
  | nil => rfl
  | cons a l ih => rw [List.flatMap_cons, List.length_append, ih, List.length_cons]; simp [Ent.L]; omega
theorem flatE_app (A B : List Ent) : flatE (A ++ B) = flatE A ++ flatE B := by unfold flatE; rw [List.flatMap_append]
theorem flatE_one (L : List Ent) : ∀ u ∈ flatE L, u.oneCell' = true := by
  intro u hu
  unfold flatE at hu
  obtain ⟨e, _, he⟩ := List.mem_flatMap.1 hu
  simp [Ent.L] at he
  rcases he with rfl | rfl | rfl <;> rfl
theorem oneN_len (g : Gr) : 1 ≤ (oneN g).length ∧ (oneN g).length ≤ 2 := by
  unfold oneN
  split
  · simp
  · split <;> simp
theorem info32 : (Tryd.prog.info? 32).map (fun i => (i.zero, i.size, i.bytes)) = some (some (.agg #[.int .i64 0, .int .i64 0, .int .u32 0]), 3, 24) := by kernel_rfl
theorem many_len (G : List Gr) : (manyN G).length ≤ 2 * G.length := by
  unfold manyN
  induction G with
  | nil => simp
  | cons a l ih => rw [List.flatMap_cons, List.length_append, List.length_cons]; have := (oneN_len a).2; omega
theorem take_succ' {α : Type} (L : List α) (k : Nat) (u : α) (h : L[k]? = some u) : L.take (k + 1) = L.take k ++ [u] := by
  rw [List.take_add_one, h]; rfl
theorem a36 : aggT Tryd.prog 36 3 := aggT_of (by kernel_rfl)
/-- what Plan gives back -/
def PlanQ (w : World) (G : List Gr) (e : Ending) (w' : World) : Prop :=
  Chg [] w w' ∧ ((G.all okG = false ∧ e = .returned (.tuple #[.slice none 0 0, .int .i64 1])) ∨ (G.all okG = true ∧ 16 < (outN G).length ∧ e = .returned (.tuple #[.slice none 0 0, .int .i64 15])) ∨
    (G.all okG = true ∧ (outN G).length ≤ 16 ∧ ∃ v, e = .returned (.tuple #[v, .int .i64 0]) ∧ w'.ownsRow w.heap.size 32 3 v (outN G).length (flatE (outN G))))
set_option maxRecDepth 100000 in
set_option maxHeartbeats 1600000 in
theorem plan_any {w : World} {p : Option Addr} {b o n c : Nat} {G : List Gr} (hG : GrsAt w b o G) (hn : G.length = n) (hp : 0 < n → p = some ⟨b, o, none⟩) (hn6 : n < 1000000) :
    Calls Tryd.prog 9 #[.slice p n c] w (PlanQ w G) := by
  have HG := Lib.hid hG
  have HN := Lib.hid hn
  have HP := Lib.hid hp
  have HN6 := Lib.hid hn6
  obtain ⟨i0, hi0, hz0, hz1, hz2⟩ := info_parts info32
  clear hG hn hp hn6
  go_enter Tryd.func9, Tryd.ntmps9
  go_wp2_with fail
  go_loopw [9, 4, 6] (fun i ov gv wr => ∃ k : Nat, k ≤ n ∧ i = .int .i64 k ∧ wr.ownsRow w.heap.size 32 3 ov (manyN (G.take k)).length (flatE (manyN (G.take k))) ∧ Chg [] w wr ∧ (G.take k).all okG = true) (fun i _ _ _ => n - (intOf i).toNat)
  case atStart => exact ⟨0, by omega, rfl, World.ownsRow_nil _ _ _ _, Chg.refl _ _, rfl⟩
  case round =>
    obtain ⟨k, hk, rfl, hown, hch, hall⟩ := hrel
    have HO := Lib.hid hown
    have HC := Lib.hid hch
    have HALL := Lib.hid hall
    clear hown hch hall
    by_cases hk2 : k < n
    · have HK := Lib.hid hk2
      have HW : Hid (wrap64 ((k : Int) + 1) = ((k + 1 : Nat) : Int)) := Lib.hid (wrap1 k (by have := HN6.out; omega))
      obtain ⟨g, hg⟩ : ∃ g, G[k]? = some g := ⟨_, List.getElem?_eq_getElem (by have := HN.out; omega)⟩
      obtain ⟨c0, c1, c2, l0, l1⟩ := HG.out.keep HC.out k g hg
      have ht := take_succ' G k g hg
      have HT := Lib.hid ht
      have HGK := Lib.hid hg
      have hpp := HP.out (by omega)
      subst hpp
      obtain ⟨st, sz, rt⟩ := g
      simp only [] at c0 c1 c2 l0 l1
      have HL0 := Lib.hid l0
      have HL1 := Lib.hid l1
      obtain ⟨A, hA⟩ : ∃ A, A = st % 4 := ⟨_, rfl⟩
      obtain ⟨M, hM⟩ : ∃ A, A = sz % 4 := ⟨_, rfl⟩
      obtain ⟨T, hT⟩ : ∃ A, A = st + sz := ⟨_, rfl⟩
      have eA : (st : Int) % 4 = (A : Int) := by omega
      have eM : (sz : Int) % 4 = (M : Int) := by omega
      have w1 : IntKind.u64.wrap (st : Int) = (st : Int) := by rw [u64w]; omega
      have w2 : IntKind.u64.wrap (sz : Int) = (sz : Int) := by rw [u64w]; omega
      have w3 : IntKind.u64.wrap ((st : Int) + (sz : Int)) = (T : Int) := by rw [u64w]; omega
      have HA := Lib.hid hA
      have HM := Lib.hid hM
      have HTT := Lib.hid hT
      have dk : decide ((k : Int) < (n : Int)) = true := by rw [decide_eq_true_eq]; omega
      have hkI : (k : Int) < (n : Int) := by omega
      have hbad : okG ⟨st, sz, rt⟩ = false → G.all okG = false := fun h => by
        rw [Bool.eq_false_iff]
        intro hh
        have := List.all_eq_true.1 hh _ (List.mem_of_getElem? HGK.out)
        rw [h] at this; cases this
      have HBAD := Lib.hid hbad
      clear ht hg l0 l1 hA hM hT hk2 hbad
      by_cases q0 : A = 0
      rotate_left
      · have n0 : ((A : Int) != 0) = true := by rw [bne_iff_ne]; omega
        have hb : okG ⟨st, sz, rt⟩ = false := by
          have := HA.out; have := HM.out; have := HTT.out
          rw [Bool.eq_false_iff]
          intro hh
          simp only [okG, Bool.and_eq_true, decide_eq_true_eq] at hh
          omega
        have HB := Lib.hid (HBAD.out hb)
        clear hb
        go_wp2
        go_ret2
        exact ⟨(HC.out.alloc _), .inl ⟨HB.out, rfl⟩⟩
      have n0 : ((A : Int) != 0) = false := by rw [Bool.eq_false_iff]; simp; omega
      by_cases q1 : M = 0
      rotate_left
      · have n1 : ((M : Int) != 0) = true := by rw [bne_iff_ne]; omega
        have hb : okG ⟨st, sz, rt⟩ = false := by
          have := HA.out; have := HM.out; have := HTT.out
          rw [Bool.eq_false_iff]
          intro hh
          simp only [okG, Bool.and_eq_true, decide_eq_true_eq] at hh
          omega
        have HB := Lib.hid (HBAD.out hb)
        clear hb
        go_wp2
        go_ret2
        exact ⟨(HC.out.alloc _), .inl ⟨HB.out, rfl⟩⟩
      have n1 : ((M : Int) != 0) = false := by rw [Bool.eq_false_iff]; simp; omega
      by_cases q2 : sz ≠ 0
      rotate_left
      · have n2 : ((sz : Int) == 0) = true := by rw [beq_iff_eq]; omega
        have hb : okG ⟨st, sz, rt⟩ = false := by
          have := HA.out; have := HM.out; have := HTT.out
          rw [Bool.eq_false_iff]
          intro hh
          simp only [okG, Bool.and_eq_true, decide_eq_true_eq] at hh
          omega
        have HB := Lib.hid (HBAD.out hb)
        clear hb
        go_wp2
        go_ret2
        exact ⟨(HC.out.alloc _), .inl ⟨HB.out, rfl⟩⟩
      have n2 : ((sz : Int) == 0) = false := by rw [Bool.eq_false_iff]; simp; omega
      by_cases q3 : T ≤ 4294967296
      rotate_left
      · have n3 : decide ((4294967296 : Int) < (T : Int)) = true := by rw [decide_eq_true_eq]; omega
        have hb : okG ⟨st, sz, rt⟩ = false := by
          have := HA.out; have := HM.out; have := HTT.out
          rw [Bool.eq_false_iff]
          intro hh
          simp only [okG, Bool.and_eq_true, decide_eq_true_eq] at hh
          omega
        have HB := Lib.hid (HBAD.out hb)
        clear hb
        go_wp2
        go_ret2
        exact ⟨(HC.out.alloc _), .inl ⟨HB.out, rfl⟩⟩
      have n3 : decide ((4294967296 : Int) < (T : Int)) = false := by rw [decide_eq_false_iff_not]; omega
      by_cases q4 : 1 ≤ rt
      rotate_left
      · have n4 : decide (rt < 1) = true := by rw [decide_eq_true_eq]; omega
        have hb : okG ⟨st, sz, rt⟩ = false := by
          have := HA.out; have := HM.out; have := HTT.out
          rw [Bool.eq_false_iff]
          intro hh
          simp only [okG, Bool.and_eq_true, decide_eq_true_eq] at hh
          omega
        have HB := Lib.hid (HBAD.out hb)
        clear hb
        go_wp2
        go_ret2
        exact ⟨(HC.out.alloc _), .inl ⟨HB.out, rfl⟩⟩
      have n4 : decide (rt < 1) = false := by rw [decide_eq_false_iff_not]; omega
      by_cases q5 : rt ≤ 7
      rotate_left
      · have n5 : decide (7 < rt) = true := by rw [decide_eq_true_eq]; omega
        have hb : okG ⟨st, sz, rt⟩ = false := by
          have := HA.out; have := HM.out; have := HTT.out
          rw [Bool.eq_false_iff]
          intro hh
          simp only [okG, Bool.and_eq_true, decide_eq_true_eq] at hh
          omega
        have HB := Lib.hid (HBAD.out hb)
        clear hb
        go_wp2
        go_ret2
        exact ⟨(HC.out.alloc _), .inl ⟨HB.out, rfl⟩⟩
      have n5 : decide (7 < rt) = false := by rw [decide_eq_false_iff_not]; omega
      have hok : okG ⟨st, sz, rt⟩ = true := by
        have := HA.out; have := HM.out; have := HTT.out
        simp only [okG, Bool.and_eq_true, decide_eq_true_eq]
        omega
      have HOK := Lib.hid hok
      have HONE := Lib.hid (fun w => one_any ⟨st, sz, rt⟩ (by have := HM.out; show sz % 4 = 0; omega) q2 (by have := HTT.out; show st + sz ≤ _; omega) HL0.out HL1.out w)
      clear hok
      unfold grV at HONE
      go_wp2_with fail
      refine (HONE.out _).mono ?_
      rintro e w2 ⟨v2, rfl, hnew, hc2⟩
      obtain ⟨b2, hb2, rfl, hrow⟩ := hnew
      have HX := Lib.hid (news_row hrow)
      have HX1 := Lib.hid (flatE_one (oneN ⟨st, sz, rt⟩))
      have HC2 : Hid (Chg [] w w2) := Lib.hid ((HC.out.alloc _).trans hc2)
      have HO2 : Hid (w2.ownsRow w.heap.size 32 3 u4 (manyN (G.take k)).length (flatE (manyN (G.take k)))) := Lib.hid (ownsRow_chg (HO.out.alloc _) hc2 (by simp))
      obtain ⟨po, co, rfl, _⟩ := own_form HO.out
      have HML := Lib.hid (many_len (G.take k))
      have HKN : Hid ((G.take k).length ≤ 1000000) := Lib.hid (by rw [List.length_take]; have := HN6.out; have := HK.out; omega)
      have HLN := Lib.hid (oneN_len ⟨st, sz, rt⟩)
      have HSZ : Hid (w.heap.size ≤ w2.heap.size) := Lib.hid HC2.out.size
      obtain ⟨m0, hm0⟩ : ∃ m0, m0 = (manyN (G.take k)).length := ⟨_, rfl⟩
      rw [← hm0] at HO2 HML ⊢
      obtain ⟨m2, hm2⟩ : ∃ m2, m2 = (oneN ⟨st, sz, rt⟩).length := ⟨_, rfl⟩
      rw [← hm2] at HLN ⊢
      have HM0 := Lib.hid hm0
      have HM2 := Lib.hid hm2
      have HFL : Hid ((flatE (oneN ⟨st, sz, rt⟩)).length = m2 * 3) := Lib.hid (by rw [flatE_len, hm2])
      clear hrow hc2 hb2 hm0 hm2
      go_wp2_with (at_builtin; refine wpList_append_own _ rfl _ _ 24 rfl w.heap.size 32 i0 (.agg #[.int .i64 0, .int .i64 0, .int .u32 0]) 3 24 Tryd.underlying24 hi0 hz0 hz1 hz2 rfl (by decide) (.slice po m0 co) m0 (flatE (manyN (G.take k))) rfl HO2.out ⟨b2, 0, none⟩ m2 m2 (flatE (oneN ⟨st, sz, rt⟩)) rfl HFL.out HX.out HX1.out (by have := HML.out; have := HKN.out; have := HLN.out; unfold maxLen; omega) (by have := HML.out; have := HKN.out; have := HLN.out; omega) HSZ.out ?_)
      intro v' W5 hx1 hx2 hx3
      clear hx3
      have HC5 : Hid (Chg [] w W5) := Lib.hid (chg_grown HC2.out hx2 (fun x hx => (HO2.out.lt x hx).1))
      have hm : manyN (G.take (k + 1)) = manyN (G.take k) ++ oneN ⟨st, sz, rt⟩ := by rw [HT.out]; unfold manyN; rw [List.flatMap_append]; simp
      have HO5 : Hid (W5.ownsRow w.heap.size 32 3 v' (manyN (G.take (k + 1))).length (flatE (manyN (G.take (k + 1))))) := Lib.hid (by
        rw [hm, List.length_append, flatE_app, ← HM0.out, ← HM2.out]; exact hx1)
      have HALL2 : Hid ((G.take (k + 1)).all okG = true) := Lib.hid (by rw [HT.out, List.all_append, HALL.out]; simp [HOK.out])
      clear hx1 hx2 hm
      go_wp2
      case roundEnd => exact ⟨⟨k + 1, HK.out, by rw [HW.out], HO5.out, HC5.out, HALL2.out⟩, by rw [HW.out]; simp only [intOf, Int.toNat_natCast]; have := HK.out; omega⟩
    · obtain rfl : k = n := by omega
      have hfull : G.take k = G := List.take_of_length_le (by have := HN.out; omega)
      have HO1 := HO.out
      have HA1 := HALL.out
      rw [hfull] at HO1 HA1
      have HO := Lib.hid HO1
      have HALL := Lib.hid HA1
      clear hfull HO1 HA1
      obtain ⟨po, co, rfl, _⟩ := own_form HO.out
      have dk : decide ((k : Int) < (k : Int)) = false := by simp
      obtain ⟨b1, hb1⟩ : ∃ b1, b1 = wr.heap.size := ⟨_, rfl⟩
      obtain ⟨V, hV⟩ : ∃ V, V = wr.alloc (.cells #[.int .i64 3, .int .i64 0, .int .u32 536870911] 32) := ⟨_, rfl⟩
      have hcv : Chg [] w V := by rw [hV]; exact HC.out.alloc _
      have HOV : Hid (V.ownsRow w.heap.size 32 3 (.slice po (manyN G).length co) (manyN G).length (flatE (manyN G))) := Lib.hid (by rw [hV]; exact HO.out.alloc _)
      have hrow : V.row? b1 = some (flatE [lastE]).toArray := by rw [hV]; exact row_alloc_at _ _ _ _ hb1
      have HX := Lib.hid (news_row hrow)
      have HCV := Lib.hid hcv
      have HML := Lib.hid (many_len G)
      have HONE := Lib.hid (flatE_one [lastE])
      have HVV := Lib.hid hV
      have HB1 := Lib.hid hb1
      clear hV hcv hrow hb1
      have HSZ : Hid (w.heap.size ≤ V.heap.size) := Lib.hid HCV.out.size
      go_upto_region 9 with (fail)
      obtain ⟨m0, hm0⟩ : ∃ m0, m0 = (manyN G).length := ⟨_, rfl⟩
      rw [← hm0]
      have HM0 := Lib.hid hm0
      have HOV2 := HOV.out
      rw [← hm0] at HOV2
      have HOV := Lib.hid HOV2
      clear hm0 HOV2
      go_wp2_with (at_builtin; rw [← HB1.out, ← HVV.out]; refine wpList_append_own _ rfl _ _ 24 rfl w.heap.size 32 i0 (.agg #[.int .i64 0, .int .i64 0, .int .u32 0]) 3 24 Tryd.underlying24 hi0 hz0 hz1 hz2 rfl (by decide) (.slice po m0 co) m0 (flatE (manyN G)) rfl HOV.out ⟨b1, 0, none⟩ 1 1 (flatE [lastE]) rfl rfl HX.out HONE.out (by have := HML.out; have := HM0.out; have := HN.out; have := HN6.out; unfold maxLen; omega) (by have := HML.out; have := HM0.out; have := HN.out; have := HN6.out; omega) HSZ.out ?_)
      intro v' W5 hx1 hx2 hx3
      clear hx3
      obtain ⟨pv, cv, rfl, hpv⟩ := own_form hx1
      have hC5 : Chg [] w W5 := chg_grown HCV.out hx2 (fun x hx => (HOV.out.lt x hx).1)
      have HC5 := Lib.hid hC5
      have hlen : m0 + 1 = (outN G).length := by rw [HM0.out]; unfold outN; rw [List.length_append]; rfl
      have hO5 : W5.ownsRow w.heap.size 32 3 (.slice pv (m0 + 1) cv) (outN G).length (flatE (outN G)) := by
        have := hx1
        rw [← flatE_app] at this
        rw [← hlen]; exact this
      have HO5 := Lib.hid hO5
      obtain ⟨m1, hm1⟩ : ∃ m1, m1 = m0 + 1 := ⟨_, rfl⟩
      rw [← hm1] at HO5
      have HM1 : Hid (m1 = (outN G).length) := Lib.hid (hm1.trans hlen)
      rw [← hm1]
      clear hx1 hx2 hC5 hlen hO5 hm1 hpv
      by_cases h16 : 16 < m1
      · have d1 : decide ((16 : Int) < (m1 : Int)) = true := by rw [decide_eq_true_eq]; omega
        go_wp2
        go_ret2
        exact ⟨HC5.out, .inr (.inl ⟨HALL.out, by rw [← HM1.out]; exact h16, rfl⟩)⟩
      · have d1 : decide ((16 : Int) < (m1 : Int)) = false := by rw [decide_eq_false_iff_not]; omega
        go_wp2
        go_ret2
        exact ⟨HC5.out, .inr (.inr ⟨HALL.out, by rw [← HM1.out]; omega, _, rfl, HO5.out⟩)⟩
end Go.Proofs.L
