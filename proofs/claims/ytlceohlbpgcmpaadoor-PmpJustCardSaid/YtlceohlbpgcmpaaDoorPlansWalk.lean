/- Proved here: lemmas and contracts (PlansWalk) for the laws of this seat, for all values of the stated types; no further condition. -/
import Derived.Test.YtlceohlbpgcmpaaDoorRefPlan
open Go Go.RowKit Go.Lib
namespace Go.Proofs.L
attribute [local irreducible] wpT
theorem one_lt (g : Gr) (h : okG g = true) : ∀ e ∈ oneN g, e.addr < 4294967296 := by
  simp only [okG, Bool.and_eq_true, decide_eq_true_eq] at h
  intro e he
  unfold oneN at he
  split at he
  · simp at he; subst he; show g.start / 4 < _; omega
  · split at he
    · simp at he; subst he
      have : (g.start / 4) ||| (g.size / 8 - 1) < 2 ^ 32 := Nat.or_lt_two_pow (by omega) (by omega)
      exact this
    · simp at he
      rcases he with rfl | rfl
      · show g.start / 4 < _; omega
      · show (g.start + g.size) / 4 < _; omega
theorem outN_lt (G : List Gr) (h : G.all okG = true) : ∀ e ∈ outN G, e.addr < 4294967296 := by
  intro e he
  unfold outN manyN at he
  rw [List.mem_append, List.mem_flatMap] at he
  rcases he with ⟨g, hg, he⟩ | he
  · exact one_lt g (List.all_eq_true.1 h g hg) e he
  · simp at he; subst he; decide
/-- the error, and the entries -/
def errN (G : List Gr) : Int := if G.all okG = false then 1 else if 16 < (outN G).length then 15 else 0
def ansN (G : List Gr) : List Ent := if errN G = 0 then outN G else []
theorem PlanQ.ans {w w' : World} {G : List Gr} {e : Ending} (h : PlanQ w G e w') :
    ∃ p g c, e = .returned (.tuple #[.slice p (ansN G).length c, .int .i64 (errN G)]) ∧ Chg [] w w' ∧ (0 < (ansN G).length → p = some ⟨g, 0, none⟩) ∧ EntsAt w' g 0 (ansN G) := by
  obtain ⟨hc, hq⟩ := h
  rcases hq with ⟨h1, rfl⟩ | ⟨h1, h2, rfl⟩ | ⟨h1, h2, v, rfl, ho⟩
  · have e1 : errN G = 1 := by unfold errN; rw [if_pos h1]
    have e2 : ansN G = [] := by unfold ansN; rw [if_neg (by omega)]
    rw [e1, e2]
    exact ⟨none, 0, 0, rfl, hc, fun h => absurd h (by simp), fun j e h => by simp at h⟩
  · have e1 : errN G = 15 := by unfold errN; rw [if_neg (by simp [h1]), if_pos h2]
    have e2 : ansN G = [] := by unfold ansN; rw [if_neg (by omega)]
    rw [e1, e2]
    exact ⟨none, 0, 0, rfl, hc, fun h => absurd h (by simp), fun j e h => by simp at h⟩
  · have e1 : errN G = 0 := by unfold errN; rw [if_neg (by simp [h1]), if_neg (by omega)]
    have e2 : ansN G = outN G := by unfold ansN; rw [if_pos e1]
    have e3 : 0 < (outN G).length := by unfold outN; simp
    obtain ⟨g, c, rfl, hb, hE⟩ := ents_own ho e3 (outN_lt G h1)
    rw [e1, e2]
    exact ⟨_, g, c, rfl, hc, fun _ => rfl, hE⟩
theorem ans_len (G : List Gr) : (ansN G).length ≤ 16 := by
  unfold ansN
  split
  · rename_i h
    unfold errN at h
    split at h
    · omega
    · split at h
      · omega
      · omega
  · simp
set_option maxRecDepth 100000 in
set_option maxHeartbeats 1600000 in
theorem plans_walk {w : World} {p : Option Addr} {b o n c : Nat} {G : List Gr} (hG : GrsAt w b o G) (hn : G.length = n) (hp : 0 < n → p = some ⟨b, o, none⟩) (hL : LaidOk w) :
    Calls Tryd.prog 3 #[.slice p n c] w fun e w' => e = .returned (.bool true) ∧ Chg [] w w' := by
  have HF := Lib.hid (fit_ok w hL)
  have HG := Lib.hid hG
  have HN := Lib.hid hn
  have HP := Lib.hid hp
  clear hG hn hp hL
  go_enter Tryd.func3, Tryd.ntmps3
  go_wp2_with fail
  refine HF.out.mono ?_
  rintro e w1 ⟨rfl, hc1⟩
  by_cases h40 : 40 < n
  · have g1 : decide ((40 : Int) < (n : Int)) = true := by rw [decide_eq_true_eq]; omega
    go_wp2
    go_ret
    exact ⟨rfl, hc1⟩
  have g1 : decide ((40 : Int) < (n : Int)) = false := by rw [decide_eq_false_iff_not]; omega
  have HPL := Lib.hid (plan_any (c := c) (HG.out.keep hc1) HN.out HP.out (by omega))
  have HRP : Hid (∀ w2, Chg [] w1 w2 → Calls Tryd.prog 10 #[.slice p n c] w2 (PlanQ w2 G)) := Lib.hid fun w2 h => rplan_any (c := c) ((HG.out.keep hc1).keep h) HN.out HP.out (by omega)
  have HC1 := Lib.hid hc1
  clear hc1 h40
  go_wp2_with fail
  refine HPL.out.mono ?_
  rintro e w2 hq
  obtain ⟨p2, b2, c2, rfl, hc2, hp2, hE2⟩ := hq.ans
  have HRP2 := Lib.hid (HRP.out w2 hc2)
  have HC2 := Lib.hid (HC1.out.trans hc2)
  have HP2 := Lib.hid hp2
  have HE2 := Lib.hid hE2
  clear hq hc2 hp2 hE2
  go_wp2_with fail
  refine HRP2.out.mono ?_
  rintro e w3 hq
  obtain ⟨p3, b3, c3, rfl, hc3, hp3, hE3⟩ := hq.ans
  have HC3 := Lib.hid (HC2.out.trans hc3)
  have HP3 := Lib.hid hp3
  have HE3 := Lib.hid hE3
  have HE23 := Lib.hid (HE2.out.keep hc3)
  have HLE := Lib.hid (ans_len G)
  clear hq hc3 hp3 hE3
  obtain ⟨r, hr⟩ : ∃ r, r = errN G := ⟨_, rfl⟩
  obtain ⟨A, hA⟩ : ∃ r, r = ansN G := ⟨_, rfl⟩
  rw [← hA] at HP2 HP3 HE3 HE23 HLE ⊢
  rw [← hr]
  obtain ⟨m, hm⟩ : ∃ r, r = A.length := ⟨_, rfl⟩
  rw [← hm] at HP2 HP3 HLE ⊢
  have HM := Lib.hid hm
  clear hA hr hm HRP HRP2 HPL HF HE2
  go_wp2_with fail
  go_loopw [35, 7] (fun i _ wr => ∃ k : Nat, k ≤ m ∧ i = .int .i64 k ∧ Chg [] w3 wr) (fun i _ _ => m - (intOf i).toNat)
  case atStart => exact ⟨0, by omega, rfl, Chg.refl _ _⟩
  case round =>
    obtain ⟨k, hk, rfl, hch⟩ := hrel
    have HCH := Lib.hid hch
    clear hch
    by_cases hk2 : k < m
    · have HK := Lib.hid hk2
      have HW : Hid (wrap64 ((k : Int) + 1) = ((k + 1 : Nat) : Int)) := Lib.hid (wrap1 k (by have := HLE.out; omega))
      obtain ⟨e, he⟩ : ∃ e, A[k]? = some e := ⟨_, List.getElem?_eq_getElem (by have := HM.out; omega)⟩
      have k1 := HE3.out.keep HCH.out k e he
      have k2 := HE23.out.keep HCH.out k e he
      have K1 : Hid (∀ w', Chg [] wr w' → EntAt w' b3 (0 + k * 3) e) := Lib.hid fun w' h => (HE3.out.keep (HCH.out.trans h)) k e he
      have K2 : Hid (∀ w', Chg [] wr w' → EntAt w' b2 (0 + k * 3) e) := Lib.hid fun w' h => (HE23.out.keep (HCH.out.trans h)) k e he
      have hp2 := HP2.out (by omega)
      have hp3 := HP3.out (by omega)
      subst hp2
      subst hp3
      clear k1 k2 he
      obtain ⟨wy, rt, ad⟩ := e
      have KK : Hid (∀ w', Chg [] wr w' → ∀ j u, ([.int .i64 wy, .int .i64 rt, .int .u32 (ad : Int)] : List Value)[j]? = some u → w'.cell? ⟨b3, k * 3 + j, none⟩ = some u ∧ w'.cell? ⟨b2, k * 3 + j, none⟩ = some u) := Lib.hid fun w' h j u hu => by
        obtain ⟨x0, x1, x2, -⟩ := K1.out w' h
        obtain ⟨y0, y1, y2, -⟩ := K2.out w' h
        rw [Nat.zero_add] at x0 x1 x2 y0 y1 y2
        match j, hu with
        | 0, hu => simp at hu; subst hu; exact ⟨x0, y0⟩
        | 1, hu => simp at hu; subst hu; exact ⟨x1, y1⟩
        | 2, hu => simp at hu; subst hu; exact ⟨x2, y2⟩
        | j + 3, hu => simp at hu
      have dk : decide ((k : Int) < (m : Int)) = true := by rw [decide_eq_true_eq]; omega
      go_upto_region 12 with (fail)
      refine wp_region_C (fun w' => Chg [] wr w') [(0, 0), (1, 0), (2, 0), (3, 1), (4, 0), (5, 0), (6, 0), (7, 1), (8, 0)] rfl (by kernel_rfl) ?hSA ?hTA
      case hSA => exact (Chg.refl _ _).drew
      refine wpT_pureD (v := ?_) (some 38) rfl rfl (by rfl) (fun w' => ?_) ?_
      rotate_left
      · (go_simp; try with_reducible rfl)
      try simp only [Act.put, List.setIfInBounds_toArray, List.set_cons_zero, List.set_cons_succ]
      refine wpT_pureD (v := ?_) (some 39) rfl rfl (by rfl) (fun w' => ?_) ?_
      rotate_left
      · (go_simp; try with_reducible rfl)
      try simp only [Act.put, List.setIfInBounds_toArray, List.set_cons_zero, List.set_cons_succ]
      refine wpT_pureD (v := ?_) (some 40) rfl rfl (by rfl) (fun w' => ?_) ?_
      rotate_left
      · (go_simp; try with_reducible rfl)
      try simp only [Act.put, List.setIfInBounds_toArray, List.set_cons_zero, List.set_cons_succ]
      refine wpT_load_part a32 [.int .i64 wy, .int .i64 rt, .int .u32 (ad : Int)] (some 41) _ rfl rfl rfl (by first | rfl | (show _ = _; go_simp)) rfl rfl (fun w' hw j u hu => ?_) ?_
      · (have := (KK.out w' hw j u hu).2; first | exact this | (simp; exact this) | (simpa using this))
      try simp only [Act.put, List.setIfInBounds_toArray, List.set_cons_zero, List.set_cons_succ]
      refine wpT_pureD (v := ?_) (some 42) rfl rfl (by rfl) (fun w' => ?_) ?_
      rotate_left
      · (go_simp; try with_reducible rfl)
      try simp only [Act.put, List.setIfInBounds_toArray, List.set_cons_zero, List.set_cons_succ]
      refine wpT_pureD (v := ?_) (some 43) rfl rfl (by rfl) (fun w' => ?_) ?_
      rotate_left
      · (go_simp; try with_reducible rfl)
      try simp only [Act.put, List.setIfInBounds_toArray, List.set_cons_zero, List.set_cons_succ]
      refine wpT_pureD (v := ?_) (some 44) rfl rfl (by rfl) (fun w' => ?_) ?_
      rotate_left
      · (go_simp; try with_reducible rfl)
      try simp only [Act.put, List.setIfInBounds_toArray, List.set_cons_zero, List.set_cons_succ]
      refine wpT_load_part a32 [.int .i64 wy, .int .i64 rt, .int .u32 (ad : Int)] (some 45) _ rfl rfl rfl (by rfl) rfl rfl (fun w' hw j u hu => ?_) ?_
      · (have := (KK.out w' hw j u hu).1; first | exact this | (simp; exact this) | (simpa using this))
      try simp only [Act.put, List.setIfInBounds_toArray, List.set_cons_zero, List.set_cons_succ]
      refine wpT_pureD (v := .bool false) (some 46) rfl rfl (by rfl) (fun w' => ?_) ?_
      · go_simp
      try simp only [Act.put, List.setIfInBounds_toArray, List.set_cons_zero, List.set_cons_succ]
      refine wpT_end ?_
      go_wp2
      case roundEnd => exact ⟨⟨k + 1, HK.out, by rw [HW.out], HCH.out.drew⟩, by rw [HW.out]; simp only [intOf, Int.toNat_natCast]; have := HK.out; omega⟩
    · obtain rfl : k = m := by omega
      have dk : decide ((k : Int) < (k : Int)) = false := by simp
      go_wp2
      go_ret
      exact ⟨rfl, HC3.out.trans HCH.out⟩
end Go.Proofs.L
