/- Proved here: lemmas and contracts (JustWalk) for the laws of this seat, for all values of the stated types; no further condition. -/
import Derived.Test.YtlceohlbpgcmpaaDoorJustLaw
import Derived.Test.YtlceohlbpgcmpaaDoorPlansWalk
import Derived.Test.YtlceohlbpgcmpaaDoorApartAll
open Go Go.RowKit Go.Lib
namespace Go.Proofs.L
attribute [local irreducible] wpT
def sumR (R : List Rn) : Nat := (R.map fun x => x.t - x.f).sum
def sumG (G : List Gr) : Nat := (G.map fun g => g.size).sum
theorem idv (a : Nat) (ha : a ≤ 4294967296) : IntKind.i64.wrap (a : Int) = (a : Int) ∧ wrap64 (a : Int) = (a : Int) :=
  ⟨by rw [IntKind.wrap_i64]; omega, IntWalk.wrap64_in _ ⟨by omega, by omega⟩⟩
theorem sumR_succ (R : List Rn) (k : Nat) (x : Rn) (h : R[k]? = some x) : sumR (R.take (k + 1)) = sumR (R.take k) + (x.t - x.f) := by
  unfold sumR; rw [take_succ' R k x h, List.map_append, List.sum_append]; simp
theorem sumG_succ (G : List Gr) (k : Nat) (g : Gr) (h : G[k]? = some g) : sumG (G.take (k + 1)) = sumG (G.take k) + g.size := by
  unfold sumG; rw [take_succ' G k g h, List.map_append, List.sum_append]; simp
theorem sumR_le (R : List Rn) (h : ∀ x ∈ R, x.t ≤ 4294967296) (k : Nat) (hk : k ≤ R.length) : sumR (R.take k) ≤ k * 4294967296 := by
  induction k with
  | zero => simp [sumR]
  | succ k ih =>
    have hx : R[k]? = some R[k] := List.getElem?_eq_getElem hk
    rw [sumR_succ R k _ hx]
    have := h _ (List.mem_of_getElem? hx)
    have := ih (by omega)
    omega
theorem sumG_le (G : List Gr) (h : ∀ g ∈ G, g.size < 4294967296) (k : Nat) (hk : k ≤ G.length) : sumG (G.take k) ≤ k * 4294967296 := by
  induction k with
  | zero => simp [sumG]
  | succ k ih =>
    have hx : G[k]? = some G[k] := List.getElem?_eq_getElem hk
    rw [sumG_succ G k _ hx]
    have := h _ (List.mem_of_getElem? hx)
    have := ih (by omega)
    omega
def fitsR (g : Gr) (x : Rn) : Bool := decide (x.f ≤ g.start) && (decide (g.start + g.size ≤ x.t) && (x.r == g.rights))
theorem addw (z : Int) (d : Nat) (h1 : 0 ≤ z) (h2 : z ≤ 1000000000000) (hd : d ≤ 4294967296) : wrap64 (z + (d : Int)) = z + (d : Int) := IntWalk.wrap64_in _ ⟨by omega, by omega⟩
theorem subz (z : Int) (d : Nat) (h1 : -1000000000000 ≤ z) (h2 : z ≤ 1000000000000) (hd : d ≤ 4294967296) : wrap64 (z - (d : Int)) = z - (d : Int) := IntWalk.wrap64_in _ ⟨by omega, by omega⟩
theorem subu (t f d : Nat) (h : d + f = t) (ht : t ≤ 4294967296) : IntKind.u64.wrap ((t : Int) - (f : Int)) = (d : Int) := by rw [u64w]; omega
theorem idu (a : Nat) (ha : a ≤ 8589934592) : IntKind.u64.wrap (a : Int) = (a : Int) := by rw [u64w]; omega
theorem sumu (a b t : Nat) (h : t = a + b) (ha : t ≤ 8589934592) : IntKind.u64.wrap ((a : Int) + (b : Int)) = (t : Int) := by rw [u64w]; omega
set_option maxRecDepth 100000 in
set_option maxHeartbeats 1600000 in
theorem just_walk {w : World} {p : Option Addr} {b o n c : Nat} {G : List Gr} (hG : GrsAt w b o G) (hn : G.length = n) (hp : 0 < n → p = some ⟨b, o, none⟩) (hcap : n ≤ c) (hL : LaidOk w) :
    Calls Tryd.prog 7 #[.slice p n c] w fun e w' => e = .returned (.bool true) ∧ Chg [] w w' := by
  have HF := Lib.hid (fit_ok w hL)
  have HGV := Lib.hid hG
  have HN := Lib.hid hn
  have HP := Lib.hid hp
  have HL := Lib.hid hL
  have HCAP := Lib.hid hcap
  clear hG hn hp hL hcap
  go_enter Tryd.func7, Tryd.ntmps7
  go_wp2_with fail
  refine HF.out.mono ?_
  rintro e w1 ⟨rfl, hc1⟩
  have HC1 := Lib.hid hc1
  have HG1 := Lib.hid (HGV.out.keep hc1)
  have HL1 := Lib.hid (HL.out.keep hc1)
  clear hc1 HGV HL HF
  by_cases h40 : 40 < n
  · have g1 : decide ((40 : Int) < (n : Int)) = true := by rw [decide_eq_true_eq]; omega
    go_wp2
    go_ret
    exact ⟨rfl, HC1.out⟩
  have g1 : decide ((40 : Int) < (n : Int)) = false := by rw [decide_eq_false_iff_not]; omega
  have HN6 : Hid (n ≤ 40) := Lib.hid (by omega)
  have HAP := Lib.hid (apart_any (c := c) HG1.out HN.out HP.out (by omega) HCAP.out)
  clear h40
  go_wp2_with fail
  refine HAP.out.mono ?_
  rintro e w2 ⟨r, rfl, hc2, hgood⟩
  have HC2 := Lib.hid (HC1.out.trans hc2)
  cases r with
  | false =>
    clear hc2 hgood
    go_wp2
    go_ret
    exact ⟨rfl, HC2.out⟩
  | true =>
  have HGD := Lib.hid (hgood rfl)
  have HG2 := Lib.hid (HG1.out.keep hc2)
  have HL2 := Lib.hid (HL1.out.keep hc2)
  clear hc2 hgood HG1 HL1 HAP
  have HPL := Lib.hid (plan_any (c := c) HG2.out HN.out HP.out (by have := HN6.out; omega))
  go_wp2_with fail
  refine HPL.out.mono ?_
  rintro e w3 hq
  obtain ⟨p2, b2, c2, rfl, hc3, hp2, hE2⟩ := hq.ans
  have HC3 := Lib.hid (HC2.out.trans hc3)
  have HG3 := Lib.hid (HG2.out.keep hc3)
  have HL3 := Lib.hid (HL2.out.keep hc3)
  have HP2 := Lib.hid hp2
  have HE2 := Lib.hid hE2
  have HLEN := Lib.hid (ans_len G)
  have herr : errN G = 0 ∨ errN G = 15 := by
    unfold errN
    rw [if_neg (by rw [HGD.out.1]; simp)]
    split
    · exact .inr rfl
    · exact .inl rfl
  have hans : errN G = 0 → ansN G = outN G := fun h => by unfold ansN; rw [if_pos h]
  have HANS := Lib.hid hans
  clear hq hc3 hp2 hE2 HG2 HL2 HPL hans
  obtain ⟨er, her⟩ : ∃ r, r = errN G := ⟨_, rfl⟩
  rw [← her] at HANS herr ⊢
  clear her
  obtain ⟨A', hA'⟩ : ∃ A, A = ansN G := ⟨_, rfl⟩
  rw [← hA'] at HANS HP2 HE2 HLEN ⊢
  clear hA'
  rcases herr with rfl | rfl
  rotate_left
  · go_wp2
    go_ret
    exact ⟨rfl, HC3.out⟩
  have hA2 : A' = outN G := HANS.out rfl
  subst hA2
  obtain ⟨m0, hm0⟩ : ∃ m, m = (outN G).length := ⟨_, rfl⟩
  rw [← hm0] at HP2 HLEN ⊢
  have hm1 : 0 < m0 := by rw [hm0]; unfold outN; simp
  have hp2 := HP2.out hm1
  subst hp2
  have HM0 := Lib.hid hm0
  clear hm0 hm1 HP2 HANS
  have HRU := Lib.hid (runs_any (p := some ⟨b2, 0, none⟩) (c := c2) HE2.out HM0.out.symm (fun _ => rfl) (by have := HLEN.out; omega) HL3.out)
  go_wp2_with fail
  refine HRU.out.mono ?_
  rintro e w4 ⟨hc4, M, v, hM, hs, hmk, rfl, hown⟩
  obtain ⟨R, hRd⟩ : ∃ R, R = runsTo (rngs 0 (outN G)) M (1 + 2 * (outN G).length) := ⟨_, rfl⟩
  rw [← hRd] at hown
  have hz : ∀ g ∈ G, g.size < 4294967296 := fun g hg => by
    obtain ⟨i, hi, rfl⟩ := List.getElem_of_mem hg
    exact (HG3.out i _ (List.getElem?_eq_getElem hi)).l1
  have hok : RunsOk (rngs 0 (outN G)) R 4294967296 := by rw [hRd]; exact runs_all _ M _ (by omega) (by rw [show 1 + 2 * (outN G).length + 1 = M.length by omega]; exact hs) hmk
  have hok2 := runsOk_congr hok (fun q => byte_out G HGD.out.1 hz q 0)
  have hlen : R.length ≤ 100 := by rw [hRd]; have := runsTo_len (rngs 0 (outN G)) M (1 + 2 * (outN G).length); have := HLEN.out; have := HM0.out; omega
  have hev : ∀ x ∈ R, x.f < x.t ∧ x.t ≤ 4294967296 := fun x hx => ⟨(hok.each x hx).1, (hok.each x hx).2.1⟩
  have hfound : ∀ g ∈ G, R.any (fitsR g) = true := fun g hg => by
    obtain ⟨x, hx, x1, x2, x3⟩ := just_found HGD.out rfl hok2 hg
    rw [List.any_eq_true]
    exact ⟨x, hx, by unfold fitsR; simp [x1, x2, x3]⟩
  have hsum : sumR R = sumG G := just_sum HGD.out rfl hok2
  have HC4 := Lib.hid (HC3.out.trans hc4)
  have HG4 := Lib.hid (HG3.out.keep hc4)
  have HO := Lib.hid hown
  have HRL := Lib.hid hlen
  have HEV := Lib.hid hev
  have HFO := Lib.hid hfound
  have HSUM := Lib.hid hsum
  have HZ := Lib.hid hz
  clear hc4 hM hs hmk hown hRd hok hok2 hlen hev hfound hsum hz HRU HE2 HL3 HG3
  obtain ⟨pg, cap, rfl, hpg⟩ := own_form HO.out
  obtain ⟨m, hm⟩ : ∃ m, m = R.length := ⟨_, rfl⟩
  rw [← hm] at HO HRL hpg ⊢
  have HM := Lib.hid hm
  have HPG := Lib.hid hpg
  clear hm hpg
  go_wp2_with fail
  go_loopw [37, 6, 8] (fun i t _ wr => ∃ k : Nat, k ≤ m ∧ i = .int .i64 k ∧ t = .int .i64 ((sumR (R.take k) : Nat) : Int) ∧ Chg [] w4 wr) (fun i _ _ _ => m - (intOf i).toNat)
  case atStart => exact ⟨0, by omega, rfl, rfl, Chg.refl _ _⟩
  case round =>
    obtain ⟨k, hk, rfl, rfl, hch⟩ := hrel
    have HC := Lib.hid hch
    clear hch
    by_cases hk2 : k < m
    · have HK := Lib.hid hk2
      have HW : Hid (wrap64 ((k : Int) + 1) = ((k + 1 : Nat) : Int)) := Lib.hid (wrap1 k (by have := HRL.out; omega))
      obtain ⟨g, rfl, hgb⟩ := HPG.out (by omega)
      obtain ⟨⟨f, t, r⟩, hx⟩ : ∃ x, R[k]? = some x := ⟨_, List.getElem?_eq_getElem (by have := HM.out; omega)⟩
      have HOw := Lib.hid (ownsRow_chg HO.out HC.out (by simp))
      have c0 : wr.cell? ⟨g, k * 3, none⟩ = some (.int .u64 (f : Int)) := cellsAt HOw.out hgb _ _ (by rw [show k * 3 = k * 3 + 0 by omega, flatR_get _ _ _ hx 0 (by omega)]; rfl)
      have c1 : wr.cell? ⟨g, k * 3 + 1, none⟩ = some (.int .u64 (t : Int)) := cellsAt HOw.out hgb _ _ (by rw [flatR_get _ _ _ hx 1 (by omega)]; rfl)
      have c2 : wr.cell? ⟨g, k * 3 + 2, none⟩ = some (.int .i64 r) := cellsAt HOw.out hgb _ _ (by rw [flatR_get _ _ _ hx 2 (by omega)]; rfl)
      obtain ⟨e1, e2⟩ := HEV.out _ (List.mem_of_getElem? hx)
      simp only [] at e1 e2
      have hss := sumR_succ R k _ hx
      simp only [] at hss
      have hle := sumR_le R (fun x hx => (HEV.out x hx).2) k (by have := HM.out; omega)
      obtain ⟨s, hsd⟩ : ∃ s, s = sumR (R.take k) := ⟨_, rfl⟩
      obtain ⟨d, hd⟩ : ∃ d, d = t - f := ⟨_, rfl⟩
      rw [← hsd, ← hd] at hss
      rw [← hsd] at hle ⊢
      have HSS := Lib.hid hss
      have hdf : d + f = t := by omega
      have hs12 : (s : Int) ≤ 1000000000000 := by have := HRL.out; omega
      have hd32 : d ≤ 4294967296 := by omega
      have dk : decide ((k : Int) < (m : Int)) = true := by rw [decide_eq_true_eq]; omega
      have hkI : (k : Int) < (m : Int) := by omega
      have q1 := subu t f d hdf e2
      have q2 := (idv d hd32).2
      have q3 := addw (s : Int) d (by exact Int.natCast_nonneg _) hs12 hd32
      clear hsd hd hss hle hdf hs12 hd32 hx hgb hk2 e1 e2
      go_wp2
      case roundEnd => exact ⟨⟨k + 1, HK.out, by rw [HW.out], by rw [HSS.out]; first | rfl | (rw [q3]; rfl) | (push_cast; rfl), HC.out.alloc _⟩, by rw [HW.out]; simp only [intOf, Int.toNat_natCast]; have := HK.out; omega⟩
    · have dk : decide ((k : Int) < (m : Int)) = false := by rw [decide_eq_false_iff_not]; omega
      have hkm : k = m := by omega
      have hfull : R.take k = R := List.take_of_length_le (by have := HM.out; omega)
      rw [hfull, HSUM.out]
      have HSG : Hid (sumG G ≤ 200000000000) := Lib.hid (by
        have := sumG_le G HZ.out G.length (Nat.le_refl _)
        rw [List.take_length] at this
        have := HN.out; have := HN6.out; omega)
      have HGW := Lib.hid (HG4.out.keep HC.out)
      have HOW := Lib.hid (ownsRow_chg HO.out HC.out (by simp))
      have HCW := Lib.hid (HC4.out.trans HC.out)
      obtain ⟨w5, hw5⟩ : ∃ W, W = wr := ⟨_, rfl⟩
      rw [← hw5] at HGW HOW HCW ⊢
      clear hw5 HG4 HO HC4 HC hfull hkm
      go_wp2_with fail
      go_loopw [52, 6, 10, 11, 13] (fun i z _ _ _ wr => ∃ k : Nat, k ≤ n ∧ i = .int .i64 k ∧ z = .int .i64 ((sumG G : Nat) - (sumG (G.take k) : Nat) : Int) ∧ Chg [] w5 wr) (fun i _ _ _ _ _ => n - (intOf i).toNat)
      case atStart => exact ⟨0, by omega, rfl, by simp [sumG], Chg.refl _ _⟩
      case round =>
        obtain ⟨k, hk, rfl, rfl, hch⟩ := hrel
        have HC := Lib.hid hch
        clear hch
        by_cases hk2 : k < n
        · have HK := Lib.hid hk2
          have HW : Hid (wrap64 ((k : Int) + 1) = ((k + 1 : Nat) : Int)) := Lib.hid (wrap1 k (by have := HN6.out; omega))
          have hpp := HP.out (by omega)
          subst hpp
          obtain ⟨gg, hgg⟩ : ∃ g, G[k]? = some g := ⟨_, List.getElem?_eq_getElem (by have := HN.out; omega)⟩
          obtain ⟨c0, c1, c2, l0, l1⟩ := HGW.out.keep HC.out k gg hgg
          have hfo := HFO.out gg (List.mem_of_getElem? hgg)
          have hss := sumG_succ G k gg hgg
          have hle := sumG_le G HZ.out k (by have := HN.out; omega)
          obtain ⟨st, sz, rt⟩ := gg
          simp only [] at c0 c1 c2 l0 l1 hss
          obtain ⟨s, hsd⟩ : ∃ s, s = sumG (G.take k) := ⟨_, rfl⟩
          obtain ⟨z, hz⟩ : ∃ z : Int, z = ((sumG G : Nat) : Int) - (s : Int) := ⟨_, rfl⟩
          rw [← hsd] at hss hle ⊢
          rw [← hz]
          have HNZ : Hid (((sumG G : Nat) : Int) - ((sumG (G.take (k + 1)) : Nat) : Int) = z - (sz : Int)) := Lib.hid (by rw [hss, hz]; omega)
          have z1 : -1000000000000 ≤ z := by have := HN6.out; omega
          have z2 : z ≤ 1000000000000 := by have := HSG.out; omega
          have hsz32 : sz ≤ 4294967296 := by omega
          have HFO1 := Lib.hid hfo
          obtain ⟨T, hT⟩ : ∃ T, T = st + sz := ⟨_, rfl⟩
          have HU := Lib.hid (And.intro (idu st (by omega)) (And.intro (idu sz (by omega)) (sumu st sz T hT (by omega))))
          have HTT := Lib.hid hT
          have dk : decide ((k : Int) < (n : Int)) = true := by rw [decide_eq_true_eq]; omega
          have hkI : (k : Int) < (n : Int) := by omega
          obtain ⟨b1, hb1⟩ : ∃ b1, b1 = wr.heap.size := ⟨_, rfl⟩
          obtain ⟨Y, hY⟩ : ∃ V, V = wr.alloc (.cells #[.int .u32 (st : Int), .int .u32 (sz : Int), .int .i64 rt] 36) := ⟨_, rfl⟩
          have ry : Y.row? b1 = some #[.int .u32 (st : Int), .int .u32 (sz : Int), .int .i64 rt] := by rw [hY]; exact row_alloc_at _ _ _ _ hb1
          have HCY : Hid (Chg [] w5 Y) := Lib.hid (by rw [hY]; exact HC.out.alloc _)
          have y0 : Y.cell? ⟨b1, 0, none⟩ = some (.int .u32 (st : Int)) := by rw [row_cell ry]; rfl
          have y1 : Y.cell? ⟨b1, 1, none⟩ = some (.int .u32 (sz : Int)) := by rw [row_cell ry]; rfl
          have y2 : Y.cell? ⟨b1, 2, none⟩ = some (.int .i64 rt) := by rw [row_cell ry]; rfl
          have HRY := Lib.hid ry
          have HB1 := Lib.hid hb1
          have HY := Lib.hid hY
          have q1 := subz z sz z1 z2 hsz32
          have q2 := (idv sz hsz32).2
          clear hsz32 hfo hss hle hsd hz z1 z2 hT ry hb1 hY hgg l0 l1 hk2
          go_upto_region 18 with (fail)
          rw [← HB1.out, ← HY.out]
          clear c0 c1 c2 HB1 HY
          go_wp2_with fail
          clear y0 y1 y2
          go_loopw [63, 11, 13] (fun j fo _ wr => ∃ k2 : Nat, k2 ≤ m ∧ j = .int .i64 k2 ∧ fo = .bool ((R.take k2).any (fitsR ⟨st, sz, rt⟩)) ∧ Chg [] Y wr) (fun j _ _ _ => m - (intOf j).toNat)
          case atStart => exact ⟨0, by omega, rfl, rfl, Chg.refl _ _⟩
          case round =>
            obtain ⟨k2, hk2', rfl, rfl, hch⟩ := hrel
            have HC2' := Lib.hid hch
            clear hch
            by_cases hk3 : k2 < m
            · have HK2 := Lib.hid hk3
              have HW2 : Hid (wrap64 ((k2 : Int) + 1) = ((k2 + 1 : Nat) : Int)) := Lib.hid (wrap1 k2 (by have := HRL.out; omega))
              obtain ⟨g, rfl, hgb⟩ := HPG.out (by omega)
              obtain ⟨⟨f, t, r⟩, hx⟩ : ∃ x, R[k2]? = some x := ⟨_, List.getElem?_eq_getElem (by have := HM.out; omega)⟩
              have HOw := Lib.hid (ownsRow_chg HOW.out (HCY.out.trans HC2'.out) (by simp))
              have c0 : wr.cell? ⟨g, k2 * 3, none⟩ = some (.int .u64 (f : Int)) := cellsAt HOw.out hgb _ _ (by rw [show k2 * 3 = k2 * 3 + 0 by omega, flatR_get _ _ _ hx 0 (by omega)]; rfl)
              have c1 : wr.cell? ⟨g, k2 * 3 + 1, none⟩ = some (.int .u64 (t : Int)) := cellsAt HOw.out hgb _ _ (by rw [flatR_get _ _ _ hx 1 (by omega)]; rfl)
              have c2 : wr.cell? ⟨g, k2 * 3 + 2, none⟩ = some (.int .i64 r) := cellsAt HOw.out hgb _ _ (by rw [flatR_get _ _ _ hx 2 (by omega)]; rfl)
              have ryw : wr.row? b1 = some #[.int .u32 (st : Int), .int .u32 (sz : Int), .int .i64 rt] := by rw [HC2'.out.row (row_lt HRY.out) (by simp)]; exact HRY.out
              obtain ⟨b3, hb3⟩ : ∃ b1, b1 = wr.heap.size := ⟨_, rfl⟩
              obtain ⟨X, hX⟩ : ∃ V, V = wr.alloc (.cells #[.int .u64 (f : Int), .int .u64 (t : Int), .int .i64 r] 48) := ⟨_, rfl⟩
              have rx : X.row? b3 = some #[.int .u64 (f : Int), .int .u64 (t : Int), .int .i64 r] := by rw [hX]; exact row_alloc_at _ _ _ _ hb3
              have HCX : Hid (Chg [] Y X) := Lib.hid (by rw [hX]; exact HC2'.out.alloc _)
              have rxy : X.row? b1 = some #[.int .u32 (st : Int), .int .u32 (sz : Int), .int .i64 rt] := by rw [hX, row_alloc_past _ _ _ (row_lt ryw)]; exact ryw
              have x0 : X.cell? ⟨b3, 0, none⟩ = some (.int .u64 (f : Int)) := by rw [row_cell rx]; rfl
              have x1 : X.cell? ⟨b3, 1, none⟩ = some (.int .u64 (t : Int)) := by rw [row_cell rx]; rfl
              have x2 : X.cell? ⟨b3, 2, none⟩ = some (.int .i64 r) := by rw [row_cell rx]; rfl
              have y0 : X.cell? ⟨b1, 0, none⟩ = some (.int .u32 (st : Int)) := by rw [row_cell rxy]; rfl
              have y1 : X.cell? ⟨b1, 1, none⟩ = some (.int .u32 (sz : Int)) := by rw [row_cell rxy]; rfl
              have y2 : X.cell? ⟨b1, 2, none⟩ = some (.int .i64 rt) := by rw [row_cell rxy]; rfl
              have HB3 := Lib.hid hb3
              have HX := Lib.hid hX
              obtain ⟨MM, hMM⟩ : ∃ M, M = (R.take k2).any (fitsR ⟨st, sz, rt⟩) := ⟨_, rfl⟩
              have hnx : (R.take (k2 + 1)).any (fitsR ⟨st, sz, rt⟩) = (MM || (decide (f ≤ st) && (decide (T ≤ t) && (r == rt)))) := by
                rw [take_succ' R k2 _ hx, List.any_append, ← hMM, HTT.out]; simp [fitsR]
              rw [← hMM]
              have dk2 : decide ((k2 : Int) < (m : Int)) = true := by rw [decide_eq_true_eq]; omega
              have hkI2 : (k2 : Int) < (m : Int) := by omega
              clear rx rxy ryw hb3 hX hMM hx hgb hk3
              go_upto_region 23 with (fail)
              rw [← HB3.out, ← HX.out]
              clear c0 c1 c2 HB3 HX hkI2
              obtain ⟨u1, u2, u3⟩ := HU.out
              cases MM with
              | true =>
                have HNX : Hid ((R.take (k2 + 1)).any (fitsR ⟨st, sz, rt⟩) = true) := Lib.hid (by rw [hnx]; rfl)
                clear hnx
                go_wp2_with fail
                refine ⟨⟨k2 + 1, HK2.out, by rw [HW2.out], by rw [HNX.out], HCX.out⟩, by rw [HW2.out]; simp only [intOf, Int.toNat_natCast]; have := HK2.out; omega⟩
              | false =>
                by_cases p1 : f ≤ st
                · by_cases p2 : T ≤ t
                  · have HNX : Hid ((R.take (k2 + 1)).any (fitsR ⟨st, sz, rt⟩) = (r == rt)) := Lib.hid (by rw [hnx]; simp [p1, p2])
                    have d1 : decide ((f : Int) ≤ (st : Int)) = true := by simpa using p1
                    have d2 : decide ((T : Int) ≤ (t : Int)) = true := by simpa using p2
                    clear hnx
                    go_wp2_with fail
                    refine ⟨⟨k2 + 1, HK2.out, by rw [HW2.out], by rw [HNX.out], HCX.out⟩, by rw [HW2.out]; simp only [intOf, Int.toNat_natCast]; have := HK2.out; omega⟩
                  · have HNX : Hid ((R.take (k2 + 1)).any (fitsR ⟨st, sz, rt⟩) = false) := Lib.hid (by rw [hnx]; simp [p2])
                    have d1 : decide ((f : Int) ≤ (st : Int)) = true := by simpa using p1
                    have d2 : decide ((T : Int) ≤ (t : Int)) = false := by simpa using p2
                    clear hnx
                    go_wp2_with fail
                    refine ⟨⟨k2 + 1, HK2.out, by rw [HW2.out], by rw [HNX.out], HCX.out⟩, by rw [HW2.out]; simp only [intOf, Int.toNat_natCast]; have := HK2.out; omega⟩
                · have HNX : Hid ((R.take (k2 + 1)).any (fitsR ⟨st, sz, rt⟩) = false) := Lib.hid (by rw [hnx]; simp [p1])
                  have d1 : decide ((f : Int) ≤ (st : Int)) = false := by simpa using p1
                  clear hnx
                  go_wp2_with fail
                  refine ⟨⟨k2 + 1, HK2.out, by rw [HW2.out], by rw [HNX.out], HCX.out⟩, by rw [HW2.out]; simp only [intOf, Int.toNat_natCast]; have := HK2.out; omega⟩
            · have dk2 : decide ((k2 : Int) < (m : Int)) = false := by rw [decide_eq_false_iff_not]; omega
              have hfull : R.take k2 = R := List.take_of_length_le (by have := HM.out; omega)
              rw [hfull, HFO1.out]
              clear hfull
              go_wp2
              case roundEnd => exact ⟨⟨k + 1, HK.out, by rw [HW.out], by rw [HNZ.out], HCY.out.trans HC2'.out⟩, by rw [HW.out]; simp only [intOf, Int.toNat_natCast]; have := HK.out; omega⟩
        · have dk : decide ((k : Int) < (n : Int)) = false := by rw [decide_eq_false_iff_not]; omega
          have hfull : G.take k = G := List.take_of_length_le (by have := HN.out; omega)
          rw [hfull, Int.sub_self]
          clear hfull
          go_wp2
          go_ret
          exact ⟨rfl, HCW.out.trans HC.out⟩
end Go.Proofs.L
