/- Proved here: lemmas and contracts (Lk9) for the laws of this seat, for all values of the stated types; no further condition. -/
import Derived.Test.YtjbplncpcgfaoaaLk7
open Go Go.RowKit Go.Lib Go.Maps
namespace Go.Proofs.L
attribute [local irreducible] wpT
/-! light: are objects few, and short? -/
structure SmallO (s : Ob) : Prop where
  len : s.nc ≤ 70000 ∧ s.nd ≤ 70000 ∧ s.nf ≤ 70000 ∧ s.nr ≤ 70000
  fn : ∀ d ∈ s.F, d.name.size ≤ 200
  rn : ∀ r ∈ s.R, r.name.size ≤ 200
def LongO (s : Ob) : Prop := s.nc ≤ 140737488355328 ∧ s.nd ≤ 140737488355328 ∧ s.nf ≤ 140737488355328 ∧ s.nr ≤ 140737488355328
def LightPost (W : World) (L : List Ob) (e : Ending) (w' : World) : Prop := ∃ r : Bool, e = .returned (.bool r) ∧ (r = true → L.length ≤ 70000 ∧ ∀ s ∈ L, SmallO s) ∧ Chg [] W w'
theorem light_no {W w' : World} {L : List Ob} (hc : Chg [] W w') : LightPost W L (.returned (.bool false)) w' := ⟨false, rfl, (fun h => by cases h), hc⟩
theorem w64add {a b : Nat} (h : a + b < 9000000000000000000) : wrap64 ((a : Int) + (b : Int)) = ((a + b : Nat) : Int) := by
  rw [IntWalk.wrap64_in _ ⟨by omega, by omega⟩]; omega
theorem mem_idx {α : Type} {L : List α} {p : α → Prop} {n : Nat} (hn : L.length ≤ n) (h : ∀ (j : Nat) (x : α), j < n → L[j]? = some x → p x) : ∀ x ∈ L, p x := fun x hx => by
  obtain ⟨j, hj⟩ := List.mem_iff_getElem?.1 hx
  exact h j x (by have := (List.getElem?_eq_some_iff.1 hj).1; omega) hj
set_option maxRecDepth 100000 in
set_option maxHeartbeats 4000000 in
theorem light_any {W : World} {p : Option Addr} {b o n c : Nat} {L : List Ob} (hS : ObsAt W b o L) (hn : L.length = n) (hp : 0 < n → p = some ⟨b, o, none⟩) (hlen : ∀ s ∈ L, LongO s) :
    Calls Try.prog 8 #[.slice p n c] W (LightPost W L) := by
  have HS : Hid (∀ V, Chg [] W V → ObsAt V b o L) := Lib.hid fun V hV => hS.keep hV
  have HN := Lib.hid hn
  have HP := Lib.hid hp
  have HLEN := Lib.hid hlen
  clear hS hn hp hlen
  go_enter Try.func8, Try.ntmps8
  go_wp2_with fail
  go_loopw [12, 3] (fun i v wr => ∃ k T : Nat, k ≤ n ∧ k ≤ T ∧ i = .int .i64 (k : Int) ∧ v = .int .i64 (T : Int) ∧ T ≤ 70000 ∧ (∀ (j : Nat) (s : Ob), j < k → L[j]? = some s → SmallO s) ∧ Chg [] W wr) (fun i _ _ => n - (intOf i).toNat)
  case atStart => exact ⟨0, 0, Nat.zero_le _, Nat.le_refl _, rfl, rfl, by omega, fun j s hj => by omega, Chg.refl _ _⟩
  case round =>
    obtain ⟨k, T, hk, hkT, rfl, rfl, hT, hall, hch⟩ := hrel
    have HK := Lib.hid hk
    have HKT := Lib.hid hkT
    have HT := Lib.hid hT
    have HALL := Lib.hid hall
    have HCH := Lib.hid hch
    clear hk hkT hT hall hch
    by_cases hkn : k < n
    · have HKN := Lib.hid hkn
      have dI : (k : Int) < (n : Int) := by omega
      obtain ⟨s, hs⟩ : ∃ s, L[k]? = some s := ⟨_, List.getElem?_eq_getElem (by rw [HN.out]; exact hkn)⟩
      have HS2 := Lib.hid hs
      have HLO := Lib.hid (HLEN.out s (List.mem_of_getElem? hs))
      have HSC := Lib.hid (HS.out _ HCH.out k s hs).1
      have HOK : Hid (∀ V, Chg [] W V → ObOk V s) := Lib.hid fun V hV => (HS.out V hV k s hs).2
      obtain rfl := HP.out (by omega)
      obtain ⟨pf, hpe⟩ : ∃ p, p = s.pf := ⟨_, rfl⟩
      have HPF : Hid (0 < s.nf → pf = some ⟨s.bf, s.of_, none⟩) := Lib.hid (by rw [hpe]; exact (HOK.out _ HCH.out).Fp)
      obtain ⟨pr, hpe2⟩ : ∃ p, p = s.pr := ⟨_, rfl⟩
      have HPR : Hid (0 < s.nr → pr = some ⟨s.br, s.or_, none⟩) := Lib.hid (by rw [hpe2]; exact (HOK.out _ HCH.out).Rp)
      obtain ⟨a1, h1⟩ : ∃ a, a = 1 + s.nc := ⟨_, rfl⟩
      obtain ⟨a2, h2⟩ : ∃ a, a = a1 + s.nd := ⟨_, rfl⟩
      obtain ⟨a3, h3⟩ : ∃ a, a = a2 + s.nf := ⟨_, rfl⟩
      obtain ⟨a4, h4⟩ : ∃ a, a = a3 + s.nr := ⟨_, rfl⟩
      obtain ⟨T2, h5⟩ : ∃ a, a = T + a4 := ⟨_, rfl⟩
      have HH := Lib.hid h5
      have HA4 : Hid (a4 = 1 + s.nc + s.nd + s.nf + s.nr) := Lib.hid (by omega)
      have W1 : Hid (wrap64 (1 + (s.nc : Int)) = (a1 : Int)) := Lib.hid (by rw [h1]; exact w64add (a := 1) (by have := HLO.out.1; omega))
      have W2 : Hid (wrap64 ((a1 : Int) + (s.nd : Int)) = (a2 : Int)) := Lib.hid (by rw [h2]; exact w64add (by have := HLO.out; unfold LongO at this; omega))
      have W3 : Hid (wrap64 ((a2 : Int) + (s.nf : Int)) = (a3 : Int)) := Lib.hid (by rw [h3]; exact w64add (by have := HLO.out; unfold LongO at this; omega))
      have W4 : Hid (wrap64 ((a3 : Int) + (s.nr : Int)) = (a4 : Int)) := Lib.hid (by rw [h4]; exact w64add (by have := HLO.out; unfold LongO at this; omega))
      have W5 : Hid (wrap64 ((T : Int) + (a4 : Int)) = (T2 : Int)) := Lib.hid (by rw [h5]; exact w64add (by have := HLO.out; unfold LongO at this; have := HT.out; omega))
      have HWK := Lib.hid (wrap1 k (by have h1 := HT.out; have h2 := HKT.out; omega))
      clear h1 h2 h3 h4 h5
      obtain ⟨Z, hZ⟩ : ∃ Z, Z = wr.alloc (.cells (obA s) 53) := ⟨_, rfl⟩
      obtain ⟨B, hB⟩ : ∃ b, b = wr.heap.size := ⟨_, rfl⟩
      have hc2 : Chg [] wr Z := by rw [hZ]; exact (Chg.refl _ _).alloc _
      have hr2 : Z.row? B = some (obA s) := by rw [hZ]; exact row_alloc_at _ _ _ _ hB
      have d0 : Z.cell? ⟨B, 0, none⟩ = some (.slice s.pc s.nc s.cc) := by rw [row_cell hr2]; rfl
      have d1 : Z.cell? ⟨B, 1, none⟩ = some (.slice s.pd s.nd s.cd) := by rw [row_cell hr2]; rfl
      have d3 : Z.cell? ⟨B, 3, none⟩ = some (.slice pf s.nf s.cf) := by rw [row_cell hr2, hpe]; rfl
      have d4 : Z.cell? ⟨B, 4, none⟩ = some (.slice pr s.nr s.cr) := by rw [row_cell hr2, hpe2]; rfl
      have HR2 : Hid (∀ V, Chg [] Z V → V.cell? ⟨B, 4, none⟩ = some (.slice pr s.nr s.cr)) := Lib.hid fun V hc => keepc d4 hc (by simp)
      have HCZ := Lib.hid (HCH.out.trans hc2)
      have HZ2 := Lib.hid hZ
      have HB2 := Lib.hid hB
      clear hs hZ hB hc2 hr2 hkn hpe hpe2
      go_upto_region 5 with (first | (refine wpList_load_part a53 (obA s).toList rfl _ rfl rfl rfl HSC.out ?_) | (refine wpList_store_new a53 _ _ rfl rfl rfl rfl rfl rfl rfl rfl ?_))
      rw [← HZ2.out, ← HB2.out]
      clear HZ2 HB2 dI
      go_upto_region 6 with (fail)
      rw [W1.out, W2.out, W3.out, W4.out, W5.out]
      clear d0 d1 d4
      rcases Nat.lt_or_ge 70000 T2 with h1 | h1
      · have i1 : (70000 : Int) < (T2 : Int) := by omega
        go_wp2
        go_ret
        exact light_no HCZ.out
      · have i1 : ¬ (70000 : Int) < (T2 : Int) := by omega
        have HT2 := Lib.hid h1
        have HSM : Hid (s.nc ≤ 70000 ∧ s.nd ≤ 70000 ∧ s.nf ≤ 70000 ∧ s.nr ≤ 70000 ∧ k + 1 ≤ T2) := Lib.hid (by have := HH.out; have := HA4.out; have := HKT.out; omega)
        clear h1
        go_wp2_with fail
        clear d3 i1
        go_loopw [39] (fun i wr => ∃ q : Nat, q ≤ s.nf ∧ i = .int .i64 (q : Int) ∧ (∀ (j : Nat) (d : Df), j < q → s.F[j]? = some d → d.name.size ≤ 200) ∧ Chg [] Z wr) (fun i _ => s.nf - (intOf i).toNat)
        case atStart => exact ⟨0, Nat.zero_le _, rfl, fun j d hj => by omega, Chg.refl _ _⟩
        case round =>
          obtain ⟨q, hq, rfl, hnm, hch⟩ := hrel
          have HQ := Lib.hid hq
          have HNM := Lib.hid hnm
          have HCQ := Lib.hid hch
          clear hq hnm hch
          by_cases hqn : q < s.nf
          · have HQN := Lib.hid hqn
            have dQ : (q : Int) < (s.nf : Int) := by omega
            have HWQ := Lib.hid (wrap1 q (by have := HSM.out; omega))
            obtain ⟨d, hd⟩ : ∃ d, s.F[q]? = some d := ⟨_, List.getElem?_eq_getElem (by rw [(HOK.out _ HCZ.out).Fn]; exact hqn)⟩
            have HD := Lib.hid hd
            have HFC := Lib.hid ((HOK.out _ (HCZ.out.trans HCQ.out)).Fa q d hd).1
            obtain rfl := HPF.out (by omega)
            obtain ⟨Y, hY⟩ : ∃ Z, Z = wr.alloc (.cells (DfC d).toArray 55) := ⟨_, rfl⟩
            obtain ⟨Bd, hB⟩ : ∃ b, b = wr.heap.size := ⟨_, rfl⟩
            have hc2 : Chg [] wr Y := by rw [hY]; exact (Chg.refl _ _).alloc _
            have n0 : Y.cell? ⟨Bd, 0, none⟩ = some (.string d.name) := by rw [row_cell (show Y.row? Bd = some (DfC d).toArray by rw [hY]; exact row_alloc_at _ _ _ _ hB)]; rfl
            have HCY := Lib.hid (HCQ.out.trans hc2)
            have HY2 := Lib.hid hY
            have HB2 := Lib.hid hB
            clear hd hY hB hc2 hqn
            go_upto_region 11 with (first | (refine wpList_load_part a55 (DfC d) rfl _ rfl rfl rfl HFC.out ?_) | (refine wpList_store_new a55 _ _ rfl rfl rfl rfl rfl rfl rfl rfl ?_))
            rw [← HY2.out, ← HB2.out]
            clear HY2 HB2 dQ
            rcases Nat.lt_or_ge 200 d.name.size with h1 | h1
            · have i1 : (200 : Int) < (d.name.size : Int) := by omega
              go_wp2
              go_ret
              exact light_no (HCZ.out.trans HCY.out)
            · have i1 : ¬ (200 : Int) < (d.name.size : Int) := by omega
              have HI := Lib.hid h1
              clear h1
              go_wp2_with fail
              case roundEnd => exact ⟨⟨q + 1, HQN.out, by rw [HWQ.out], fun j x hj hx => by
                by_cases e : j = q
                · subst e; rw [HD.out] at hx; obtain rfl := Option.some.inj hx; exact HI.out
                · exact HNM.out j x (by omega) hx, HCY.out⟩, by rw [HWQ.out]; simp only [intOf, Int.toNat_natCast]; have := HQN.out; omega⟩
          · have dQ : ¬ (q : Int) < (s.nf : Int) := by omega
            have HFN : Hid (∀ d ∈ s.F, d.name.size ≤ 200) := Lib.hid (mem_idx (n := q) (by have h1 := (HOK.out _ HCZ.out).Fn; have := HQ.out; omega) HNM.out)
            clear hqn
            have d4 := HR2.out wr HCQ.out
            have HCA := Lib.hid (HCZ.out.trans HCQ.out)
            go_upto_block 4 with (fail)
            clear d4 dQ
            go_wp2_with fail
            go_loopw [51] (fun i wr => ∃ q : Nat, q ≤ s.nr ∧ i = .int .i64 (q : Int) ∧ (∀ (j : Nat) (d : Rf), j < q → s.R[j]? = some d → d.name.size ≤ 200) ∧ Chg [] W wr) (fun i _ => s.nr - (intOf i).toNat)
            case atStart => exact ⟨0, Nat.zero_le _, rfl, fun j d hj => by omega, HCA.out⟩
            case round =>
              obtain ⟨q2, hq, rfl, hnm, hch⟩ := hrel
              have HQ2 := Lib.hid hq
              have HNM2 := Lib.hid hnm
              have HCQ2 := Lib.hid hch
              clear hq hnm hch
              by_cases hqn : q2 < s.nr
              · have HQN := Lib.hid hqn
                have dQ : (q2 : Int) < (s.nr : Int) := by omega
                have HWQ := Lib.hid (wrap1 q2 (by have := HSM.out; omega))
                obtain ⟨d, hd⟩ : ∃ d, s.R[q2]? = some d := ⟨_, List.getElem?_eq_getElem (by rw [(HOK.out _ HCZ.out).Rn]; exact hqn)⟩
                have HD := Lib.hid hd
                have HFC := Lib.hid ((HOK.out _ HCQ2.out).Ra q2 d hd).1
                obtain rfl := HPR.out (by omega)
                obtain ⟨Y, hY⟩ : ∃ Z, Z = wr.alloc (.cells (RfC d).toArray 57) := ⟨_, rfl⟩
                obtain ⟨Bd, hB⟩ : ∃ b, b = wr.heap.size := ⟨_, rfl⟩
                have hc2 : Chg [] wr Y := by rw [hY]; exact (Chg.refl _ _).alloc _
                have n0 : Y.cell? ⟨Bd, 3, none⟩ = some (.string d.name) := by rw [row_cell (show Y.row? Bd = some (RfC d).toArray by rw [hY]; exact row_alloc_at _ _ _ _ hB)]; rfl
                have HCY := Lib.hid (HCQ2.out.trans hc2)
                have HY2 := Lib.hid hY
                have HB2 := Lib.hid hB
                clear hd hY hB hc2 hqn
                go_upto_region 17 with (first | (refine wpList_load_part a57 (RfC d) rfl _ rfl rfl rfl HFC.out ?_) | (refine wpList_store_new a57 _ _ rfl rfl rfl rfl rfl rfl rfl rfl ?_))
                rw [← HY2.out, ← HB2.out]
                clear HY2 HB2 dQ
                rcases Nat.lt_or_ge 200 d.name.size with h1 | h1
                · have i1 : (200 : Int) < (d.name.size : Int) := by omega
                  go_wp2
                  go_ret
                  exact light_no HCY.out
                · have i1 : ¬ (200 : Int) < (d.name.size : Int) := by omega
                  have HI := Lib.hid h1
                  clear h1
                  go_wp2_with fail
                  case roundEnd => exact ⟨⟨q2 + 1, HQN.out, by rw [HWQ.out], fun j x hj hx => by
                    by_cases e : j = q2
                    · subst e; rw [HD.out] at hx; obtain rfl := Option.some.inj hx; exact HI.out
                    · exact HNM2.out j x (by omega) hx, HCY.out⟩, by rw [HWQ.out]; simp only [intOf, Int.toNat_natCast]; have := HQN.out; omega⟩
              · have dQ : ¬ (q2 : Int) < (s.nr : Int) := by omega
                have HRN : Hid (∀ r ∈ s.R, r.name.size ≤ 200) := Lib.hid (mem_idx (n := q2) (by have h1 := (HOK.out _ HCZ.out).Rn; have := HQ2.out; omega) HNM2.out)
                clear hqn
                go_wp2_with fail
                case roundEnd => exact ⟨⟨k + 1, T2, HKN.out, HSM.out.2.2.2.2, by rw [HWK.out], rfl, HT2.out, fun j x hj hx => by
                  by_cases e : j = k
                  · subst e; rw [HS2.out] at hx; obtain rfl := Option.some.inj hx
                    exact ⟨⟨HSM.out.1, HSM.out.2.1, HSM.out.2.2.1, HSM.out.2.2.2.1⟩, HFN.out, HRN.out⟩
                  · exact HALL.out j x (by omega) hx, HCQ2.out⟩, by rw [HWK.out]; simp only [intOf, Int.toNat_natCast]; have := HKN.out; omega⟩
    · have dI : ¬ (k : Int) < (n : Int) := by omega
      have HE : Hid (L.length ≤ 70000 ∧ ∀ s ∈ L, SmallO s) := Lib.hid ⟨by have := HN.out; have := HKT.out; have := HT.out; omega, mem_idx (n := k) (by have := HN.out; omega) HALL.out⟩
      clear hkn
      go_wp2
      go_ret
      exact ⟨true, rfl, fun _ => HE.out, HCH.out⟩
end Go.Proofs.L
