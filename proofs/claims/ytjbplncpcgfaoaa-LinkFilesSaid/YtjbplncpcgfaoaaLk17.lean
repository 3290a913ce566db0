/- Proved here: lemmas and contracts (Lk17) for the laws of this seat, for all values of the stated types; no further condition. -/
import Derived.Test.YtjbplncpcgfaoaaLk16
import Derived.Test.YtjbplncpcgfaoaaLk17a
import Derived.Test.YtjbplncpcgfaoaaEq
open Go Go.RowKit Go.Lib Go.Maps
namespace Go.Proofs.L
attribute [local irreducible] wpT
/-! LinkFiles: the walk -/
theorem ent_at {L : List Ob} (h : errL L = 0) : entL L < 2000000 := by
  obtain ⟨-, -, -, -, -, -, -, hs, -⟩ := err_bounds h
  obtain ⟨y, hy⟩ := symC_get (P := defsL L) rfl hs
  have e : entL L = y := by unfold entL; rw [hy]; rfl
  rw [e]
  exact symC_lt h hy
theorem eqRk (r : Rl) (h1 : r.at_ < 2000000) (h2 : r.add < 4294967296) (w : World) : (Op.equalIn 10000 45 (.agg (RkC r).toArray) (.agg #[.int .i64 (IntKind.i64.wrap (r.at_ : Int)), .int .i64 r.ty, .int .i64 (r.sym : Int), .int .i64 (IntKind.i64.wrap (r.add : Int))])).run Try.prog w = .ok true w := by
  rw [i64s _ (by omega), i64s _ (by omega)]
  have h := run_equalIn_ints (P := Try.prog) w 9998 45 3 4 .i64 [(r.at_ : Int), r.ty, (r.sym : Int), (r.add : Int)] [(r.at_ : Int), r.ty, (r.sym : Int), (r.add : Int)] Try.underlying45 Try.underlying3 (by kernel_rfl) (by simp) (by simp)
  simpa [cellsK, RkC] using h
set_option maxRecDepth 100000 in
set_option maxHeartbeats 8000000 in
theorem files_walk {W : World} {p : Option Addr} {b o n c : Nat} {L : List Ob} (hS : ObsAt W b o L) (hn : L.length = n) (hp : 0 < n → p = some ⟨b, o, none⟩) (hl : ∀ s ∈ L, LongO s) (hR : ∀ s ∈ L, ∀ r ∈ s.R, r.name.size ≤ maxLen) :
    Calls Try.prog 3 #[.slice p n c] W fun e w' => e = .returned (.bool true) ∧ Chg [] W w' := by
  have HS : Hid (∀ V, Chg [] W V → ObsAt V b o L) := Lib.hid fun V hV => hS.keep hV
  have HN := Lib.hid hn
  have HP := Lib.hid hp
  have HL := Lib.hid hl
  have HRN := Lib.hid hR
  clear hS hn hp hl hR
  go_enter Try.func3, Try.ntmps3
  go_wp2_with fail
  refine (fit_all _).mono ?_
  rintro e w1 ⟨rfl, hc1⟩
  have HC1 := Lib.hid hc1
  clear hc1
  go_wp2_with fail
  refine (light_any (c := c) (HS.out _ HC1.out) HN.out HP.out HL.out).mono ?_
  rintro e w2 ⟨r, rfl, hr, hc2⟩
  have HC2 := Lib.hid (HC1.out.trans hc2)
  clear hc2
  cases r
  case false =>
    clear hr
    go_wp2
    go_ret
    exact ⟨rfl, HC2.out⟩
  case true =>
    have HSM := Lib.hid (hr rfl)
    clear hr
    go_wp2_with fail
    refine (link_any (c := c) (HS.out _ HC2.out) HN.out HP.out HRN.out).mono ?_
    rintro e w3 ⟨v, rfl, hv1, hv2, hc3⟩
    have HV1 := Lib.hid hv1
    have HV2 := Lib.hid hv2
    have HC3 := Lib.hid (HC2.out.trans hc3)
    clear hc3 hv1 hv2
    obtain ⟨k, hk⟩ : ∃ k, k = errL L := ⟨_, rfl⟩
    rw [← hk]
    have HK := Lib.hid hk
    clear hk
    by_cases k0 : k = 0
    · have HE : Hid (errL L = 0) := Lib.hid (by rw [← HK.out]; exact k0)
      subst k0
      obtain ⟨vg, vr, vs, hv, hsg, hr, hs⟩ := (HV2.out HE.out).ex
      have hv' : v = #[Value.int .u32 (entL L : Int), vg, vr, vs] := hv
      clear hv
      obtain ⟨x, hx⟩ : ∃ x, x = entL L := ⟨_, rfl⟩
      rw [← hx] at hv'
      have HX := Lib.hid hx
      obtain ⟨P, hP⟩ : ∃ P, P = defsL L := ⟨_, rfl⟩
      obtain ⟨Rs, hRs⟩ : ∃ P, P = refsL L := ⟨_, rfl⟩
      rw [← hP] at hs
      rw [← hRs] at hr
      obtain ⟨N, hNN⟩ : ∃ N, N = P.length + 1 := ⟨_, rfl⟩
      rw [← hNN] at hs
      obtain ⟨M, hMM⟩ : ∃ N, N = Rs.length := ⟨_, rfl⟩
      rw [← hMM] at hr
      have HNB := Lib.hid hNN
      have HMB := Lib.hid hMM
      have HPD := Lib.hid hP
      have HRD := Lib.hid hRs
      have HSG := Lib.hid hsg
      obtain ⟨pr, cr, rfl, hpr⟩ := own_form hr
      obtain ⟨ps, cs, rfl, hps⟩ := own_form hs
      obtain ⟨gs, rfl, -⟩ := hps (by omega)
      have HRO := Lib.hid hr
      have HSO := Lib.hid hs
      have HPR := Lib.hid hpr
      have HVV := Lib.hid hv'
      clear hx hP hRs hr hs hNN hMM hpr hps hsg
      obtain ⟨vc, vd, s1, s2, s3⟩ := HSG.out.ex
      obtain ⟨C, hC⟩ : ∃ C, C = codeB L := ⟨_, rfl⟩
      obtain ⟨D, hD⟩ : ∃ C, C = dataB L := ⟨_, rfl⟩
      obtain ⟨t0, ht0⟩ : ∃ t, t = sumO L 0 L.length := ⟨_, rfl⟩
      obtain ⟨t1, ht1⟩ : ∃ t, t = sumO L 1 L.length + sumO L 2 L.length := ⟨_, rfl⟩
      have s3' : w3.ownsRow w2.heap.size 47 4 vg (if 0 < t1 then 2 else 1) (segC (bsF L 0) vc t0 5 ++ if 0 < t1 then segC (bsF L 1) vd t1 3 else []) := by
        rw [ht1, ht0]; exact s3
      obtain ⟨nc, hnc⟩ : ∃ n, n = C.length := ⟨_, rfl⟩
      obtain ⟨nd, hnd⟩ : ∃ n, n = D.length := ⟨_, rfl⟩
      rw [← hC, ← hnc] at s1
      rw [← hD, ← hnd] at s2
      have HCL : Hid (C.length = t0 ∧ 0 < t0 ∧ t0 ≤ 16384) := Lib.hid (by
        have hA : ∀ s ∈ L, ObOk _ s := fun s hs => by
          obtain ⟨i, hi⟩ := List.mem_iff_getElem?.1 hs
          exact (HS.out _ HC2.out i s hi).2
        have h := code_len hA L.length
        rw [List.take_of_length_le (Nat.le_refl _)] at h
        have h2 := err_bounds HE.out
        rw [hC, ht0, h]
        omega)
      have HNC := Lib.hid hnc
      have HND := Lib.hid hnd
      clear hnc hnd
      obtain rfl : t0 = nc := by rw [HNC.out]; exact HCL.out.1.symm
      have HDL : Hid (t1 ≤ 16384) := Lib.hid (by have h2 := err_bounds HE.out; rw [ht1]; omega)
      obtain ⟨b1, hb1⟩ : ∃ b, b = bsF L 1 := ⟨_, rfl⟩
      rw [← hb1] at s3'
      have HB1 : Hid (b1 = bsF L 1 ∧ b1 ≤ 300000) := Lib.hid ⟨hb1, by rw [hb1]; have h2 := err_bounds HE.out; have h3 := upN_le (256 + sumO L 0 L.length); simp only [bsF]; omega⟩
      obtain ⟨pc, cc, rfl, -⟩ := own_form s1
      obtain ⟨pd, cd, rfl, -⟩ := own_form s2
      have HS1 := Lib.hid s1
      have HS2 := Lib.hid s2
      have HCD := Lib.hid hC
      have HDD := Lib.hid hD
      have HT0 := Lib.hid ht0
      have HT1 := Lib.hid ht1
      obtain ⟨K, hK⟩ : ∃ K, K = (if 0 < t1 then 2 else 1) := ⟨_, rfl⟩
      rw [← hK] at s3'
      obtain ⟨pg, cg, rfl, hpg⟩ := own_form s3'
      obtain ⟨gg, rfl, -⟩ := hpg (by rw [hK]; split <;> decide)
      have HKK := Lib.hid hK
      have HS3 := Lib.hid s3'
      clear s1 s2 s3 s3' hC hD ht0 ht1 hb1 hK hpg HSG
      obtain rfl := HVV.out
      clear HVV hv'
      go_upto_region 6 with (refine wpList_store_new a30 _ _ rfl rfl rfl rfl rfl rfl rfl rfl ?_)
      obtain ⟨F, hF⟩ : ∃ F, F = w3.heap.size := ⟨_, rfl⟩
      obtain ⟨V, hV⟩ : ∃ V, V = w3.alloc (.cells #[Value.int .u32 (x : Int), .slice (some ⟨gg, 0, none⟩) K cg, .slice pr M cr, .slice (some ⟨gs, 0, none⟩) N cs] 30) := ⟨_, rfl⟩
      rw [← hV, ← hF]
      have HVF : Hid (∀ U, Chg [] V U → U.row? F = some #[Value.int .u32 (x : Int), .slice (some ⟨gg, 0, none⟩) K cg, .slice pr M cr, .slice (some ⟨gs, 0, none⟩) N cs]) := Lib.hid fun U hU => (hU.row (row_lt (by rw [hV]; exact row_alloc_at _ _ _ _ hF)) (by simp)).trans (by rw [hV]; exact row_alloc_at _ _ _ _ hF)
      have HC3V : Hid (Chg [] w3 V) := Lib.hid (by rw [hV]; exact ((Chg.refl _ _).alloc _))
      have HCV : Hid (Chg [] W V) := Lib.hid (HC3.out.trans HC3V.out)
      clear hV hF
      go_wp2_with fail
      refine (old_any (c := c) (HS.out _ HCV.out) HN.out HP.out (by rw [← HN.out]; exact HSM.out.1) HSM.out.2).mono ?_
      rintro e w4 ⟨v4, T, rfl, hol, hc4⟩
      obtain ⟨p4, c4, rfl, hp4⟩ := own_form hol.own
      have HC4 := Lib.hid hc4
      have HOL := Lib.hid hol
      have HP4 : Hid (∃ g, (0 < n → p4 = some ⟨g, 0, none⟩) ∧ RosAt w4 g 0 L T) := Lib.hid (by
        by_cases h0 : 0 < n
        · obtain ⟨g, rfl, -⟩ := hp4 h0
          exact ⟨g, fun _ => rfl, own_ros HOL.out HN.out⟩
        · refine ⟨0, fun h => absurd h h0, fun j s t hs => ?_⟩
          have := (List.getElem?_eq_some_iff.1 hs).1
          have := HN.out
          omega)
      clear hol hp4 hc4
      obtain ⟨g4, hg4, hros⟩ := HP4.out
      have HG4 := Lib.hid hg4
      have HROS := Lib.hid hros
      clear hg4 hros HP4
      go_wp2_with fail
      refine (rlink_any (c := c4) HROS.out (fun s hs => by
        obtain ⟨i, hi⟩ := List.mem_iff_getElem?.1 hs
        exact (HS.out _ (HCV.out.trans HC4.out) i s hi).2) HOL.out.ok HN.out HOL.out.len HG4.out HL.out).mono ?_
      rintro e w5 ⟨v5, rfl, hv1, hv2, hc5⟩
      have HW1 := Lib.hid hv1
      have HW2 := Lib.hid hv2
      have HC5 := Lib.hid (HC4.out.trans hc5)
      clear hc5 hv1 hv2
      rw [HE.out]
      obtain ⟨vs', vr', vc', vd', hv5, r1, r2, r3, r4⟩ := (HW2.out HE.out).ex
      rw [← HX.out, ← HB1.out.1, ← HT1.out] at hv5
      rw [← HPD.out, ← HNB.out] at r1
      rw [← HRD.out, ← HMB.out] at r2
      rw [← HCD.out, ← HNC.out] at r3
      rw [← HDD.out, ← HND.out] at r4
      obtain ⟨pr', cr', rfl, hpr'⟩ := own_form r2
      obtain ⟨ps', cs', rfl, hps'⟩ := own_form r1
      obtain ⟨gs', rfl, -⟩ := hps' (by have := HNB.out; omega)
      obtain ⟨pc', cc', rfl, -⟩ := own_form r3
      obtain ⟨pd', cd', rfl, -⟩ := own_form r4
      have HR1 := Lib.hid r1
      have HR2 := Lib.hid r2
      have HR3 := Lib.hid r3
      have HR4 := Lib.hid r4
      have HPR' := Lib.hid hpr'
      have HV5 := Lib.hid hv5
      clear r1 r2 r3 r4 hpr' hps' hv5
      obtain rfl := HV5.out
      clear HV5
      go_upto_region 7 with (refine wpList_store_new a38 _ _ rfl rfl rfl rfl rfl rfl rfl rfl ?_)
      obtain ⟨G, hG⟩ : ∃ F, F = w5.heap.size := ⟨_, rfl⟩
      obtain ⟨U, hU⟩ : ∃ V, V = w5.alloc (.cells #[.int .i64 (x : Int), .slice (some ⟨gs', 0, none⟩) N cs', .slice pr' M cr', .slice pc' t0 cc', .slice pd' nd cd', .int .i64 (b1 : Int), .int .i64 (t1 : Int)] 38) := ⟨_, rfl⟩
      rw [← hU, ← hG]
      have hr2 : U.row? G = some #[.int .i64 (x : Int), .slice (some ⟨gs', 0, none⟩) N cs', .slice pr' M cr', .slice pc' t0 cc', .slice pd' nd cd', .int .i64 (b1 : Int), .int .i64 (t1 : Int)] := by rw [hU]; exact row_alloc_at _ _ _ _ hG
      have h5u : Chg [] w5 U := by rw [hU]; exact (Chg.refl _ _).alloc _
      have hcu : Chg [] V U := HC5.out.trans h5u
      have hr1 : U.row? F = some #[Value.int .u32 (x : Int), .slice (some ⟨gg, 0, none⟩) K cg, .slice pr M cr, .slice (some ⟨gs, 0, none⟩) N cs] := HVF.out U hcu
      have HCU : Hid (Chg [] W U) := Lib.hid (HCV.out.trans hcu)
      have H3U : Hid (Chg [] w3 U) := Lib.hid (HC3V.out.trans hcu)
      have H5U := Lib.hid h5u
      have HFR : Hid (∀ Y, Chg [] U Y → Y.row? F = some #[Value.int .u32 (x : Int), .slice (some ⟨gg, 0, none⟩) K cg, .slice pr M cr, .slice (some ⟨gs, 0, none⟩) N cs]) := Lib.hid fun Y hY => (hY.row (row_lt hr1) (by simp)).trans hr1
      have HGR : Hid (∀ Y, Chg [] U Y → Y.row? G = some #[.int .i64 (x : Int), .slice (some ⟨gs', 0, none⟩) N cs', .slice pr' M cr', .slice pc' t0 cc', .slice pd' nd cd', .int .i64 (b1 : Int), .int .i64 (t1 : Int)]) := Lib.hid fun Y hY => (hY.row (row_lt hr2) (by simp)).trans hr2
      have f0 : U.cell? ⟨F, 0, none⟩ = some (.int .u32 (x : Int)) := by rw [row_cell hr1]; rfl
      have f2 : U.cell? ⟨F, 2, none⟩ = some (.slice pr M cr) := by rw [row_cell hr1]; rfl
      have f3 : U.cell? ⟨F, 3, none⟩ = some (.slice (some ⟨gs, 0, none⟩) N cs) := by rw [row_cell hr1]; rfl
      have g0 : U.cell? ⟨G, 0, none⟩ = some (.int .i64 (x : Int)) := by rw [row_cell hr2]; rfl
      have g1 : U.cell? ⟨G, 1, none⟩ = some (.slice (some ⟨gs', 0, none⟩) N cs') := by rw [row_cell hr2]; rfl
      have g2 : U.cell? ⟨G, 2, none⟩ = some (.slice pr' M cr') := by rw [row_cell hr2]; rfl
      have wx : wrap64 (x : Int) = (x : Int) := w64s x (by have := ent_at HE.out; have := HX.out; omega)
      clear hG hU hr1 hr2 hcu h5u
      go_upto_region 9 with (fail)
      clear wx f0 g0
      go_upto_block 0 with (fail)
      clear f3
      go_wp2_with fail
      go_loopw [62] (fun i wx => ∃ q : Nat, q ≤ N ∧ i = .int .i64 (q : Int) ∧ wx = U) (fun i _ => N - (intOf i).toNat)
      case atStart => exact ⟨0, Nat.zero_le _, rfl, rfl⟩
      case round =>
        obtain ⟨q, hq, rfl, hw⟩ := hrel
        obtain rfl := hw.symm
        have HQ := Lib.hid hq
        clear hq hw
        by_cases hqn : q < N
        · have HQN := Lib.hid hqn
          have dQ : (q : Int) < (N : Int) := by omega
          have dQ2 : q < N := hqn
          have HWQ := Lib.hid (wrap1 q (by have h := (err_bounds HE.out).2.2.2.2.2.2.2.2.1; have := HNB.out; have := HPD.out; subst this; omega))
          obtain ⟨y, hy⟩ := symC_at (P := P) (k := q) (by have := HNB.out; omega)
          have HY := Lib.hid hy
          have c1 : U.cell? ⟨gs, q, none⟩ = some (.int .u32 (y : Int)) := keepc (cellsAt HSO.out rfl q _ hy) H3U.out (by simp)
          have c2 : U.cell? ⟨gs', q, none⟩ = some (.int .i64 (y : Int)) := keepc (cellsAt HR1.out rfl q _ (symR_of hy)) H5U.out (by simp)
          have wy : wrap64 (y : Int) = (y : Int) := w64s y (by have := symC_lt HE.out (by rw [← HPD.out]; exact hy); omega)
          clear hqn hy
          go_wp2_with fail
          case roundEnd => exact ⟨⟨q + 1, HQN.out, by rw [HWQ.out], trivial⟩, by rw [HWQ.out]; simp only [intOf, Int.toNat_natCast]; have := HQN.out; omega⟩
        · have dQ : ¬ (q : Int) < (N : Int) := by omega
          clear hqn g1
          go_upto_block 2 with (fail)
          clear dQ
          go_wp2_with fail
          go_loopw [79] (fun i wx => ∃ q : Nat, q ≤ M ∧ i = .int .i64 (q : Int) ∧ Chg [] U wx) (fun i _ => M - (intOf i).toNat)
          case atStart => exact ⟨0, Nat.zero_le _, rfl, Chg.refl _ _⟩
          case round =>
            clear f2 g2
            obtain ⟨m, hm, rfl, hch⟩ := hrel
            have HM := Lib.hid hm
            have HCH := Lib.hid hch
            clear hm hch
            by_cases hmn : m < M
            · have HMN := Lib.hid hmn
              have dM : (m : Int) < (M : Int) := by omega
              have dM2 : m < M := hmn
              have HWM := Lib.hid (wrap1 m (by have h := (err_bounds HE.out).2.2.2.2.2.2.2.2.2; have := HMB.out; have := HRD.out; subst this; omega))
              obtain ⟨r, hr⟩ : ∃ r, Rs[m]? = some r := ⟨_, List.getElem?_eq_getElem (by have := HMB.out; omega)⟩
              have HRB : Hid (r.at_ < 2000000 ∧ r.add < 4294967296) := Lib.hid (refs_lt (w := w2) HE.out (fun s hs => by
                obtain ⟨i, hi⟩ := List.mem_iff_getElem?.1 hs
                exact (HS.out _ HC2.out i s hi).2) r (by rw [← HRD.out]; exact List.mem_of_getElem? hr))
              obtain ⟨gr, hgr, hgr2⟩ := HPR.out (by omega)
              obtain ⟨gr', hgr', hgr2'⟩ := HPR'.out (by omega)
              subst hgr hgr'
              have HRC : Hid (∀ (j : Nat) (u : Value), (RlC r)[j]? = some u → wr.cell? ⟨gr, m * 4 + j, none⟩ = some u) := Lib.hid fun j u hu => keepc (cellsAt HRO.out rfl (m * 4 + j) u (by
                have h2 := flat_at 4 RlC (fun _ => rfl) Rs [] m r j u hr hu
                rwa [List.append_nil] at h2)) (H3U.out.trans HCH.out) (by simp)
              have HRC' : Hid (∀ (V : World), Chg [] U V → ∀ (j : Nat) (u : Value), (RkC r)[j]? = some u → V.cell? ⟨gr', m * 4 + j, none⟩ = some u) := Lib.hid fun V hV j u hu => keepc (cellsAt HR2.out rfl (m * 4 + j) u (by
                have h2 := flat_at 4 RkC (fun _ => rfl) Rs [] m r j u hr hu
                rwa [List.append_nil] at h2)) (H5U.out.trans hV) (by simp)
              obtain ⟨Z, hZ⟩ : ∃ Z, Z = wr.alloc (.cells (RlC r).toArray 44) := ⟨_, rfl⟩
              obtain ⟨B, hB⟩ : ∃ b, b = wr.heap.size := ⟨_, rfl⟩
              have hc2 : Chg [] wr Z := by rw [hZ]; exact (Chg.refl _ _).alloc _
              have hr2 : Z.row? B = some (RlC r).toArray := by rw [hZ]; exact row_alloc_at _ _ _ _ hB
              have HZD : Hid (Chg [] U Z.drew) := Lib.hid ((HCH.out.trans hc2).trans (Chg.refl _ _).drew)
              have s0 : Hid (Z.drew.cell? ⟨G, 2, none⟩ = some (.slice (some ⟨gr', 0, none⟩) M cr')) := Lib.hid (by rw [row_cell (HGR.out _ HZD.out)]; rfl)
              have s1 : Hid (Z.drew.cell? ⟨B, 0, none⟩ = some (.int .u32 (r.at_ : Int))) := Lib.hid (show Z.cell? _ = _ by rw [row_cell hr2]; rfl)
              have s2 : Hid (Z.drew.cell? ⟨B, 1, none⟩ = some (.int .i64 r.ty)) := Lib.hid (show Z.cell? _ = _ by rw [row_cell hr2]; rfl)
              have s3 : Hid (Z.drew.cell? ⟨B, 2, none⟩ = some (.int .i64 (r.sym : Int))) := Lib.hid (show Z.cell? _ = _ by rw [row_cell hr2]; rfl)
              have s4 : Hid (Z.drew.cell? ⟨B, 3, none⟩ = some (.int .u32 (r.add : Int))) := Lib.hid (show Z.cell? _ = _ by rw [row_cell hr2]; rfl)
              have HZ2 := Lib.hid hZ
              have HB2 := Lib.hid hB
              clear hr hZ hB hc2 hr2 hmn hgr2 hgr2'
              go_upto_region 18 with (first | (refine wpList_load_part a44 (RlC r) rfl _ rfl rfl rfl HRC.out ?_) | (refine wpList_store_new a44 _ _ rfl rfl rfl rfl rfl rfl rfl rfl ?_))
              rw [← HZ2.out, ← HB2.out]
              clear HZ2 HB2
              have heq := eqRk r HRB.out.1 HRB.out.2
              refine wp_region_C (fun w' => w'.cell? ⟨G, 2, none⟩ = some (.slice (some ⟨gr', 0, none⟩) M cr') ∧ w'.cell? ⟨B, 0, none⟩ = some (.int .u32 (r.at_ : Int)) ∧ w'.cell? ⟨B, 1, none⟩ = some (.int .i64 r.ty) ∧ w'.cell? ⟨B, 2, none⟩ = some (.int .i64 (r.sym : Int)) ∧ w'.cell? ⟨B, 3, none⟩ = some (.int .u32 (r.add : Int)) ∧ ∀ (j : Nat) (u : Value), (RkC r)[j]? = some u → w'.cell? ⟨gr', m * 4 + j, none⟩ = some u) [(0, 0), (1, 1), (2, 0), (3, 0), (4, 1), (5, 0), (6, 1), (7, 0), (8, 0), (9, 1), (10, 0), (11, 1), (12, 0), (13, 1), (14, 0), (15, 0), (16, 0)] rfl (by kernel_rfl) ?hSA ?hTA
              case hSA => exact ⟨s0.out, s1.out, s2.out, s3.out, s4.out, HRC'.out _ HZD.out⟩
              refine wpT_pureD (v := ?_) (some 84) rfl rfl (by rfl) (fun w' => ?_) ?_
              rotate_left
              · (go_simp; try with_reducible rfl)
              try simp only [Act.put, List.setIfInBounds_toArray, List.set_cons_zero, List.set_cons_succ]
              refine wpT_readD (v := ?_) (some 85) rfl rfl (by rfl) (fun w' hw => ?_) ?_
              rotate_left
              · (obtain ⟨q0, q1, q2, q3, q4, q5⟩ := hw; go_simp; try with_reducible rfl)
              try simp only [Act.put, List.setIfInBounds_toArray, List.set_cons_zero, List.set_cons_succ]
              refine wpT_pureD (v := ?_) (some 86) rfl rfl (by rfl) (fun w' => ?_) ?_
              rotate_left
              · (go_simp; try with_reducible rfl)
              try simp only [Act.put, List.setIfInBounds_toArray, List.set_cons_zero, List.set_cons_succ]
              refine wpT_pureD (v := ?_) (some 87) rfl rfl (by rfl) (fun w' => ?_) ?_
              rotate_left
              · (go_simp; try with_reducible rfl)
              try simp only [Act.put, List.setIfInBounds_toArray, List.set_cons_zero, List.set_cons_succ]
              refine wpT_load_part a45 (RkC r) (some 88) _ rfl rfl rfl (by rfl) rfl rfl (fun w' hw j u hu => hw.2.2.2.2.2 j u hu) ?_
              try simp only [Act.put, List.setIfInBounds_toArray, List.set_cons_zero, List.set_cons_succ]
              try simp only [Act.put, List.setIfInBounds_toArray, List.set_cons_zero, List.set_cons_succ]
              refine wpT_pureD (v := ?_) (some 89) rfl rfl (by rfl) (fun w' => ?_) ?_
              rotate_left
              · (go_simp; try with_reducible rfl)
              try simp only [Act.put, List.setIfInBounds_toArray, List.set_cons_zero, List.set_cons_succ]
              refine wpT_readD (v := ?_) (some 90) rfl rfl (by rfl) (fun w' hw => ?_) ?_
              rotate_left
              · (obtain ⟨q0, q1, q2, q3, q4, q5⟩ := hw; go_simp; try with_reducible rfl)
              try simp only [Act.put, List.setIfInBounds_toArray, List.set_cons_zero, List.set_cons_succ]
              refine wpT_pureD (v := ?_) (some 91) rfl rfl (by rfl) (fun w' => ?_) ?_
              rotate_left
              · (go_simp; try with_reducible rfl)
              try simp only [Act.put, List.setIfInBounds_toArray, List.set_cons_zero, List.set_cons_succ]
              refine wpT_pureD (v := ?_) (some 92) rfl rfl (by rfl) (fun w' => ?_) ?_
              rotate_left
              · (go_simp; try with_reducible rfl)
              try simp only [Act.put, List.setIfInBounds_toArray, List.set_cons_zero, List.set_cons_succ]
              refine wpT_readD (v := ?_) (some 93) rfl rfl (by rfl) (fun w' hw => ?_) ?_
              rotate_left
              · (obtain ⟨q0, q1, q2, q3, q4, q5⟩ := hw; go_simp; try with_reducible rfl)
              try simp only [Act.put, List.setIfInBounds_toArray, List.set_cons_zero, List.set_cons_succ]
              refine wpT_pureD (v := ?_) (some 94) rfl rfl (by rfl) (fun w' => ?_) ?_
              rotate_left
              · (go_simp; try with_reducible rfl)
              try simp only [Act.put, List.setIfInBounds_toArray, List.set_cons_zero, List.set_cons_succ]
              refine wpT_readD (v := ?_) (some 95) rfl rfl (by rfl) (fun w' hw => ?_) ?_
              rotate_left
              · (obtain ⟨q0, q1, q2, q3, q4, q5⟩ := hw; go_simp; try with_reducible rfl)
              try simp only [Act.put, List.setIfInBounds_toArray, List.set_cons_zero, List.set_cons_succ]
              refine wpT_pureD (v := ?_) (some 96) rfl rfl (by rfl) (fun w' => ?_) ?_
              rotate_left
              · (go_simp; try with_reducible rfl)
              try simp only [Act.put, List.setIfInBounds_toArray, List.set_cons_zero, List.set_cons_succ]
              refine wpT_readD (v := ?_) (some 97) rfl rfl (by rfl) (fun w' hw => ?_) ?_
              rotate_left
              · (obtain ⟨q0, q1, q2, q3, q4, q5⟩ := hw; go_simp; try with_reducible rfl)
              try simp only [Act.put, List.setIfInBounds_toArray, List.set_cons_zero, List.set_cons_succ]
              refine wpT_pureD (v := ?_) (some 98) rfl rfl (by rfl) (fun w' => ?_) ?_
              rotate_left
              · (go_simp; try with_reducible rfl)
              try simp only [Act.put, List.setIfInBounds_toArray, List.set_cons_zero, List.set_cons_succ]
              refine wpT_pureD (v := ?_) (some 99) rfl rfl (by rfl) (fun w' => ?_) ?_
              rotate_left
              · (go_simp; try with_reducible rfl)
              try simp only [Act.put, List.setIfInBounds_toArray, List.set_cons_zero, List.set_cons_succ]
              refine wpT_pureD (v := ?_) (some 100) rfl rfl (by rfl) (fun w' => ?_) ?_
              rotate_left
              · (go_simp; try with_reducible rfl)
              try simp only [Act.put, List.setIfInBounds_toArray, List.set_cons_zero, List.set_cons_succ]
              refine wpT_end ?_
              clear heq dM dM2
              go_wp2_with fail
              case roundEnd => exact ⟨⟨m + 1, HMN.out, by rw [HWM.out], HZD.out⟩, by rw [HWM.out]; simp only [intOf, Int.toNat_natCast]; have := HMN.out; omega⟩
            · have dM : ¬ (m : Int) < (M : Int) := by omega
              obtain rfl : m = M := by have := HM.out; omega
              clear hmn
              go_upto_region 21 with (fail)
              clear dM
              have f1 : wr.cell? ⟨F, 1, none⟩ = some (.slice (some ⟨gg, 0, none⟩) K cg) := by rw [row_cell (HFR.out _ HCH.out)]; rfl
              have g6 : wr.cell? ⟨G, 6, none⟩ = some (.int .i64 (t1 : Int)) := by rw [row_cell (HGR.out _ HCH.out)]; rfl
              have HSEG : Hid (∀ (j : Nat) (u : Value), (segC 256 (.slice pc t0 cc) t0 5)[j]? = some u → wr.cell? ⟨gg, 0 + j, none⟩ = some u) := Lib.hid fun j u hu => by
                have h := cellsAt HS3.out rfl j u (by rw [List.getElem?_append_left (by have := (List.getElem?_eq_some_iff.1 hu).1; exact this)]; exact hu)
                rw [Nat.zero_add]
                exact keepc h (H3U.out.trans HCH.out) (by simp)
              by_cases ht : 0 < t1
              · obtain rfl : K = 2 := by rw [HKK.out, if_pos ht]
                have dT : (0 : Int) < (t1 : Int) := by omega
                have HT := Lib.hid ht
                obtain ⟨Y, hY⟩ : ∃ Z, Z = wr.alloc (.cells (segC 256 (.slice pc t0 cc) t0 5).toArray 47) := ⟨_, rfl⟩
                obtain ⟨B, hB⟩ : ∃ b, b = wr.heap.size := ⟨_, rfl⟩
                have hc2 : Chg [] wr Y := by rw [hY]; exact (Chg.refl _ _).alloc _
                have hr2 : Y.row? B = some (segC 256 (.slice pc t0 cc) t0 5).toArray := by rw [hY]; exact row_alloc_at _ _ _ _ hB
                have HCY := Lib.hid (HCH.out.trans hc2)
                have HY2 := Lib.hid hY
                have HB2 := Lib.hid hB
                have k0 : Y.cell? ⟨B, 0, none⟩ = some (.int .u32 256) := by rw [row_cell hr2]; rfl
                have k1 : Y.cell? ⟨B, 1, none⟩ = some (.slice pc t0 cc) := by rw [row_cell hr2]; rfl
                have k2 : Y.cell? ⟨B, 2, none⟩ = some (.int .u32 (t0 : Int)) := by rw [row_cell hr2]; rfl
                have k3 : Y.cell? ⟨B, 3, none⟩ = some (.int .i64 5) := by rw [row_cell hr2]; rfl
                have g3 : Y.cell? ⟨G, 3, none⟩ = some (.slice pc' t0 cc') := by rw [row_cell (HGR.out _ HCY.out)]; rfl
                have f1' : Y.cell? ⟨F, 1, none⟩ = some (.slice (some ⟨gg, 0, none⟩) 2 cg) := by rw [row_cell (HFR.out _ HCY.out)]; rfl
                have cv1 := conv_own HS1.out HNC.out.symm Y (H3U.out.trans HCY.out)
                have cv2 := conv_own HR3.out HNC.out.symm Y (H5U.out.trans HCY.out)
                have wt : wrap64 (t0 : Int) = (t0 : Int) := w64s t0 (by have := HCL.out; omega)
                clear hY hB hc2 hr2
                go_upto_region 29 with (first | (refine wpList_load_part a47 (segC 256 (.slice pc t0 cc) t0 5) rfl _ rfl rfl rfl HSEG.out ?_) | (refine wpList_store_new a47 _ _ rfl rfl rfl rfl rfl rfl rfl rfl ?_))
                rw [← HY2.out, ← HB2.out]
                clear HY2 HB2 f1 g6
                go_upto_region 31 with (fail)
                clear cv1 cv2 wt k0 k1 k2 k3 g3
                have HSEG2 : Hid (∀ (V : World), Chg [] U V → ∀ (j : Nat) (u : Value), (segC b1 (.slice pd nd cd) t1 3)[j]? = some u → V.cell? ⟨gg, 4 + j, none⟩ = some u) := Lib.hid fun V hV j u hu => by
                  have h3 := HS3.out
                  rw [if_pos HT.out] at h3
                  have h := cellsAt h3 rfl (4 + j) u (by
                    rw [List.getElem?_append_right (by show 4 ≤ 4 + j; omega), show 4 + j - (segC (bsF L 0) (.slice pc t0 cc) t0 5).length = j by show 4 + j - 4 = j; omega]
                    exact hu)
                  exact keepc h (H3U.out.trans hV) (by simp)
                obtain ⟨X, hX⟩ : ∃ Z, Z = Y.alloc (.cells (segC b1 (.slice pd nd cd) t1 3).toArray 47) := ⟨_, rfl⟩
                obtain ⟨B3, hB⟩ : ∃ b, b = Y.heap.size := ⟨_, rfl⟩
                have hc2 : Chg [] Y X := by rw [hX]; exact (Chg.refl _ _).alloc _
                have hr2 : X.row? B3 = some (segC b1 (.slice pd nd cd) t1 3).toArray := by rw [hX]; exact row_alloc_at _ _ _ _ hB
                have HCX := Lib.hid (HCY.out.trans hc2)
                have HX2 := Lib.hid hX
                have HB3 := Lib.hid hB
                have k0 : X.cell? ⟨B3, 0, none⟩ = some (.int .u32 (b1 : Int)) := by rw [row_cell hr2]; rfl
                have k1 : X.cell? ⟨B3, 1, none⟩ = some (.slice pd nd cd) := by rw [row_cell hr2]; rfl
                have k2 : X.cell? ⟨B3, 2, none⟩ = some (.int .u32 (t1 : Int)) := by rw [row_cell hr2]; rfl
                have k3 : X.cell? ⟨B3, 3, none⟩ = some (.int .i64 3) := by rw [row_cell hr2]; rfl
                have g4 : X.cell? ⟨G, 4, none⟩ = some (.slice pd' nd cd') := by rw [row_cell (HGR.out _ HCX.out)]; rfl
                have g5 : X.cell? ⟨G, 5, none⟩ = some (.int .i64 (b1 : Int)) := by rw [row_cell (HGR.out _ HCX.out)]; rfl
                have g6 : X.cell? ⟨G, 6, none⟩ = some (.int .i64 (t1 : Int)) := by rw [row_cell (HGR.out _ HCX.out)]; rfl
                have cv1 := conv_own HS2.out HND.out.symm X (H3U.out.trans HCX.out)
                have cv2 := conv_own HR4.out HND.out.symm X (H5U.out.trans HCX.out)
                have wt : wrap64 (t1 : Int) = (t1 : Int) := w64s t1 (by have := HDL.out; omega)
                have wb : wrap64 (b1 : Int) = (b1 : Int) := w64s b1 (by have := HB1.out.2; omega)
                clear hX hB hc2 hr2 ht dT
                go_upto_region 32 with (first | (refine wpList_load_part a47 (segC b1 (.slice pd nd cd) t1 3) rfl _ rfl rfl rfl (HSEG2.out Y HCY.out) ?_) | (refine wpList_store_new a47 _ _ rfl rfl rfl rfl rfl rfl rfl rfl ?_))
                rw [← HX2.out, ← HB3.out]
                clear HX2 HB3
                go_wp2_with fail
                go_ret
                exact ⟨rfl, HCU.out.trans HCX.out⟩
              · obtain rfl : K = 1 := by rw [HKK.out, if_neg ht]
                have dT : ¬ (0 : Int) < (t1 : Int) := by omega
                obtain ⟨Y, hY⟩ : ∃ Z, Z = wr.alloc (.cells (segC 256 (.slice pc t0 cc) t0 5).toArray 47) := ⟨_, rfl⟩
                obtain ⟨B, hB⟩ : ∃ b, b = wr.heap.size := ⟨_, rfl⟩
                have hc2 : Chg [] wr Y := by rw [hY]; exact (Chg.refl _ _).alloc _
                have hr2 : Y.row? B = some (segC 256 (.slice pc t0 cc) t0 5).toArray := by rw [hY]; exact row_alloc_at _ _ _ _ hB
                have HCY := Lib.hid (HCH.out.trans hc2)
                have HY2 := Lib.hid hY
                have HB2 := Lib.hid hB
                have k0 : Y.cell? ⟨B, 0, none⟩ = some (.int .u32 256) := by rw [row_cell hr2]; rfl
                have k1 : Y.cell? ⟨B, 1, none⟩ = some (.slice pc t0 cc) := by rw [row_cell hr2]; rfl
                have k2 : Y.cell? ⟨B, 2, none⟩ = some (.int .u32 (t0 : Int)) := by rw [row_cell hr2]; rfl
                have k3 : Y.cell? ⟨B, 3, none⟩ = some (.int .i64 5) := by rw [row_cell hr2]; rfl
                have g3 : Y.cell? ⟨G, 3, none⟩ = some (.slice pc' t0 cc') := by rw [row_cell (HGR.out _ HCY.out)]; rfl
                have f1' : Y.cell? ⟨F, 1, none⟩ = some (.slice (some ⟨gg, 0, none⟩) 1 cg) := by rw [row_cell (HFR.out _ HCY.out)]; rfl
                have cv1 := conv_own HS1.out HNC.out.symm Y (H3U.out.trans HCY.out)
                have cv2 := conv_own HR3.out HNC.out.symm Y (H5U.out.trans HCY.out)
                have wt : wrap64 (t0 : Int) = (t0 : Int) := w64s t0 (by have := HCL.out; omega)
                clear hY hB hc2 hr2
                go_upto_region 29 with (first | (refine wpList_load_part a47 (segC 256 (.slice pc t0 cc) t0 5) rfl _ rfl rfl rfl HSEG.out ?_) | (refine wpList_store_new a47 _ _ rfl rfl rfl rfl rfl rfl rfl rfl ?_))
                rw [← HY2.out, ← HB2.out]
                clear HY2 HB2 f1 g6
                go_upto_region 31 with (fail)
                clear cv1 cv2 wt k0 k1 k2 k3 g3
                have HSEG2 : Hid (∀ (j : Nat) (u : Value), (segC 256 (.slice pc t0 cc) t0 5)[j]? = some u → Y.cell? ⟨gg, 0 + j, none⟩ = some u) := Lib.hid fun j u hu => by
                  have h := cellsAt HS3.out rfl j u (by rw [List.getElem?_append_left (by have := (List.getElem?_eq_some_iff.1 hu).1; exact this)]; exact hu)
                  rw [Nat.zero_add]
                  exact keepc h (H3U.out.trans HCY.out) (by simp)
                clear ht dT
                go_upto_region 32 with (first | (refine wpList_load_part a47 (segC 256 (.slice pc t0 cc) t0 5) rfl _ rfl rfl rfl HSEG2.out ?_) | (refine wpList_store_new a47 _ _ rfl rfl rfl rfl rfl rfl rfl rfl ?_))
                go_wp2_with fail
                go_ret
                exact ⟨rfl, HCU.out.trans (HCY.out.trans ((Chg.refl _ _).alloc _))⟩
    · obtain rfl := HV1.out (by rw [← HK.out]; exact k0)
      have dk : ((k : Int) == 0) = false := beq_eq_false_iff_ne.2 (by omega)
      have HK0 := Lib.hid k0
      clear k0
      go_upto_region 6 with (refine wpList_store_new a30 _ _ rfl rfl rfl rfl rfl rfl rfl rfl ?_)
      obtain ⟨F, hF⟩ : ∃ F, F = w3.heap.size := ⟨_, rfl⟩
      obtain ⟨V, hV⟩ : ∃ V, V = w3.alloc (.cells zF 30) := ⟨_, rfl⟩
      rw [← hV, ← hF]
      have HVF : Hid (∀ U, Chg [] V U → U.row? F = some zF) := Lib.hid fun U hU => (hU.row (row_lt (by rw [hV]; exact row_alloc_at _ _ _ _ hF)) (by simp)).trans (by rw [hV]; exact row_alloc_at _ _ _ _ hF)
      have HCV : Hid (Chg [] W V) := Lib.hid (by rw [hV]; exact HC3.out.trans ((Chg.refl _ _).alloc _))
      clear hV hF
      go_wp2_with fail
      refine (old_any (c := c) (HS.out _ HCV.out) HN.out HP.out (by rw [← HN.out]; exact HSM.out.1) HSM.out.2).mono ?_
      rintro e w4 ⟨v4, T, rfl, hol, hc4⟩
      obtain ⟨p4, c4, rfl, hp4⟩ := own_form hol.own
      have HC4 := Lib.hid hc4
      have HOL := Lib.hid hol
      have HP4 : Hid (∃ g, (0 < n → p4 = some ⟨g, 0, none⟩) ∧ RosAt w4 g 0 L T) := Lib.hid (by
        by_cases h0 : 0 < n
        · obtain ⟨g, rfl, -⟩ := hp4 h0
          exact ⟨g, fun _ => rfl, own_ros HOL.out HN.out⟩
        · refine ⟨0, fun h => absurd h h0, fun j s t hs => ?_⟩
          have := (List.getElem?_eq_some_iff.1 hs).1
          have := HN.out
          omega)
      clear hol hp4 hc4
      obtain ⟨g4, hg4, hros⟩ := HP4.out
      have HG4 := Lib.hid hg4
      have HROS := Lib.hid hros
      clear hg4 hros HP4
      go_wp2_with fail
      refine (rlink_any (c := c4) HROS.out (fun s hs => by
        obtain ⟨i, hi⟩ := List.mem_iff_getElem?.1 hs
        exact (HS.out _ (HCV.out.trans HC4.out) i s hi).2) HOL.out.ok HN.out HOL.out.len HG4.out HL.out).mono ?_
      rintro e w5 ⟨v5, rfl, hv1, hv2, hc5⟩
      have HW1 := Lib.hid hv1
      have HW2 := Lib.hid hv2
      have HC5 := Lib.hid (HC4.out.trans hc5)
      clear hc5 hv1 hv2
      rw [← HK.out]
      obtain rfl := HW1.out (by rw [← HK.out]; exact HK0.out)
      go_upto_region 7 with (refine wpList_store_new a38 _ _ rfl rfl rfl rfl rfl rfl rfl rfl ?_)
      obtain ⟨G, hG⟩ : ∃ F, F = w5.heap.size := ⟨_, rfl⟩
      obtain ⟨U, hU⟩ : ∃ V, V = w5.alloc (.cells zR 38) := ⟨_, rfl⟩
      rw [← hU, ← hG]
      have hr2 : U.row? G = some zR := by rw [hU]; exact row_alloc_at _ _ _ _ hG
      have hcu : Chg [] V U := by rw [hU]; exact HC5.out.trans ((Chg.refl _ _).alloc _)
      have hr1 : U.row? F = some zF := HVF.out U hcu
      have HCU : Hid (Chg [] W U) := Lib.hid (HCV.out.trans hcu)
      have f0 : U.cell? ⟨F, 0, none⟩ = some (.int .u32 0) := by rw [row_cell hr1]; rfl
      have f1 : U.cell? ⟨F, 1, none⟩ = some (.slice none 0 0) := by rw [row_cell hr1]; rfl
      have f2 : U.cell? ⟨F, 2, none⟩ = some (.slice none 0 0) := by rw [row_cell hr1]; rfl
      have f3 : U.cell? ⟨F, 3, none⟩ = some (.slice none 0 0) := by rw [row_cell hr1]; rfl
      have g0 : U.cell? ⟨G, 0, none⟩ = some (.int .i64 0) := by rw [row_cell hr2]; rfl
      have g1 : U.cell? ⟨G, 1, none⟩ = some (.slice none 0 0) := by rw [row_cell hr2]; rfl
      have g2 : U.cell? ⟨G, 2, none⟩ = some (.slice none 0 0) := by rw [row_cell hr2]; rfl
      clear hG hU hr1 hr2 hcu
      go_upto_block 0 with (fail)
      go_wp2_with fail
      go_loopw [62] (fun i wx => i = .int .i64 0 ∧ wx = U) (fun _ _ => 0)
      case atStart => exact ⟨rfl, rfl⟩
      case round =>
        obtain ⟨rfl, hw⟩ := hrel
        obtain rfl := hw.symm
        go_upto_block 2 with (fail)
        go_wp2_with fail
        go_loopw [79] (fun i wx => i = .int .i64 0 ∧ wx = U) (fun _ _ => 0)
        case atStart => exact ⟨rfl, rfl⟩
        case round =>
          obtain ⟨rfl, hw⟩ := hrel
          obtain rfl := hw.symm
          go_wp2
          go_ret
          exact ⟨rfl, HCU.out⟩
end Go.Proofs.L
