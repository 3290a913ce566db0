/- Proved here: lemmas and contracts (Lk18) for the laws of this seat, for all values of the stated types; no further condition. -/
import Derived.Test.YtjbplncpcgfaoaaLk17a
open Go Go.RowKit Go.Lib Go.Maps
namespace Go.Proofs.L
attribute [local irreducible] wpT
/-! byteAt -/
def byteN (C D : List Nat) (b1 t1 a : Nat) : Nat :=
  if 256 ≤ a ∧ a - 256 < C.length then C.getD (a - 256) 0 else if 0 < t1 ∧ b1 ≤ a ∧ a - b1 < D.length then D.getD (a - b1) 0 else 0
/-- a file that was linked, as the laws hold it -/
structure FileV (w : World) (base b1 t1 : Nat) (C D : List Nat) (pg : Nat) (cg K : Nat) (pc : Option Addr) (cc : Nat) (pd : Option Addr) (cd : Nat) : Prop where
  s1 : w.ownsRow base 5 1 (.slice pc C.length cc) C.length (u8L C)
  s2 : w.ownsRow base 5 1 (.slice pd D.length cd) D.length (u8L D)
  s3 : w.ownsRow base 47 4 (.slice (some ⟨pg, 0, none⟩) K cg) K (segC 256 (.slice pc C.length cc) C.length 5 ++ if 0 < t1 then segC b1 (.slice pd D.length cd) t1 3 else [])
  hK : K = if 0 < t1 then 2 else 1
  hC : C.length ≤ 16384
  hD : D.length ≤ 16384
  hb : b1 ≤ 300000
theorem FileV.keep {w w' : World} {base b1 t1 : Nat} {C D : List Nat} {pg cg K : Nat} {pc : Option Addr} {cc : Nat} {pd : Option Addr} {cd : Nat} (h : FileV w base b1 t1 C D pg cg K pc cc pd cd) (hc : Chg [] w w') : FileV w' base b1 t1 C D pg cg K pc cc pd cd :=
  ⟨ownsRow_chg h.s1 hc (by intro k _; simp), ownsRow_chg h.s2 hc (by intro k _; simp), ownsRow_chg h.s3 hc (by intro k _; simp), h.hK, h.hC, h.hD, h.hb⟩
theorem u32sub {a b : Nat} (h : b ≤ a) (h1 : a < 4294967296) : IntKind.u32.wrap ((a : Int) - (b : Int)) = ((a - b : Nat) : Int) := by
  simp [IntKind.wrap, IntKind.bits, IntKind.signed]; omega
theorem a47' : aggT Try.prog 47 4 := aggT_of (by kernel_rfl)
theorem own_cell8 {w : World} {base n c : Nat} {p : Option Addr} {D : List Nat} (h : w.ownsRow base 5 1 (.slice p n c) n (u8L D)) (j : Nat) (hj : j < D.length) (hn : D.length = n) : ∃ g, p = some ⟨g, 0, none⟩ ∧ w.cell? ⟨g, j, none⟩ = some (.int .u8 (D.getD j 0 : Int)) := by
  obtain ⟨p', cap, hv, hp⟩ := own_form h
  injection hv with e1 e2 e3
  subst e1 e3
  obtain ⟨g, rfl, hg⟩ := hp (by omega)
  refine ⟨g, rfl, cellsAt h hg j _ ?_⟩
  unfold u8L
  rw [List.getElem?_map, List.getElem?_eq_getElem hj, List.getD_eq_getElem?_getD, List.getElem?_eq_getElem hj]
  rfl
set_option maxRecDepth 100000 in
set_option maxHeartbeats 8000000 in
theorem byteAt_any {W : World} {base b1 t1 : Nat} {C D : List Nat} {pg cg K : Nat} {pc : Option Addr} {cc : Nat} {pd : Option Addr} {cd : Nat} (hF : FileV W base b1 t1 C D pg cg K pc cc pd cd) (x : Int) (p2 p3 : Option Addr) (n2 n3 c2 c3 : Nat) (a : Nat) (ha : a < 4294967296) :
    Calls Try.prog 24 #[.agg #[.int .u32 x, .slice (some ⟨pg, 0, none⟩) K cg, .slice p2 n2 c2, .slice p3 n3 c3], .int .u32 (a : Int)] W fun e w' => e = .returned (.int .u8 (byteN C D b1 t1 a : Int)) ∧ Chg [] W w' := by
  have HF : Hid (∀ V, Chg [] W V → FileV V base b1 t1 C D pg cg K pc cc pd cd) := Lib.hid fun V hV => hF.keep hV
  have HA := Lib.hid ha
  obtain ⟨nc, hnc⟩ : ∃ n, n = C.length := ⟨_, rfl⟩
  obtain ⟨nd, hnd⟩ : ∃ n, n = D.length := ⟨_, rfl⟩
  have HNC := Lib.hid hnc
  have HND := Lib.hid hnd
  have HK := Lib.hid hF.hK
  have HB : Hid (nc ≤ 16384 ∧ nd ≤ 16384 ∧ b1 ≤ 300000) := Lib.hid ⟨by rw [hnc]; exact hF.hC, by rw [hnd]; exact hF.hD, hF.hb⟩
  clear hF ha hnc hnd
  go_enter Try.func24, Try.ntmps24
  go_upto_region 1 with (fail)
  obtain ⟨Y, hY⟩ : ∃ Y, Y = W.alloc (.cells #[.int .u32 x, .slice (some ⟨pg, 0, none⟩) K cg, .slice p2 n2 c2, .slice p3 n3 c3] 30) := ⟨_, rfl⟩
  obtain ⟨B0, hB⟩ : ∃ b, b = W.heap.size := ⟨_, rfl⟩
  have hr : Y.row? B0 = some #[.int .u32 x, .slice (some ⟨pg, 0, none⟩) K cg, .slice p2 n2 c2, .slice p3 n3 c3] := by rw [hY]; exact row_alloc_at _ _ _ _ hB
  have HCY : Hid (Chg [] W Y) := Lib.hid (by rw [hY]; exact (Chg.refl _ _).alloc _)
  have f1 : Y.cell? ⟨B0, 1, none⟩ = some (.slice (some ⟨pg, 0, none⟩) K cg) := by rw [row_cell hr]; rfl
  rw [← hY, ← hB]
  clear hY hB hr
  go_wp2_with fail
  clear f1
  go_loopw [10] (fun i wr => ∃ q : Nat, q ≤ K ∧ i = .int .i64 (q : Int) ∧ (1 ≤ q → ¬ (256 ≤ a ∧ a - 256 < nc)) ∧ (2 ≤ q → ¬ (b1 ≤ a ∧ a - b1 < nd)) ∧ Chg [] W wr) (fun i _ => K - (intOf i).toNat)
  case atStart => exact ⟨0, Nat.zero_le _, rfl, fun h => by omega, fun h => by omega, HCY.out⟩
  case round =>
    obtain ⟨q, hq, rfl, hn1, hn2, hch⟩ := hrel
    have HQ := Lib.hid hq
    have HN1 := Lib.hid hn1
    have HN2 := Lib.hid hn2
    have HCH := Lib.hid hch
    have HFW := Lib.hid (HF.out _ hch)
    clear hq hn1 hn2 hch
    by_cases hqk : q < K
    · have HQK := Lib.hid hqk
      have dQ : (q : Int) < (K : Int) := by omega
      by_cases q0 : q = 0
      · subst q0
        have HSEG : Hid (∀ (j : Nat) (u : Value), (segC 256 (.slice pc nc cc) nc 5)[j]? = some u → wr.cell? ⟨pg, 0 + j, none⟩ = some u) := Lib.hid fun j u hu => by
          have h := cellsAt HFW.out.s3 rfl j u (by rw [List.getElem?_append_left (by have := (List.getElem?_eq_some_iff.1 hu).1; exact this)]; rw [← HNC.out]; exact hu)
          rw [Nat.zero_add]
          exact h
        obtain ⟨Z, hZ⟩ : ∃ Z, Z = wr.alloc (.cells (segC 256 (.slice pc nc cc) nc 5).toArray 47) := ⟨_, rfl⟩
        obtain ⟨B, hB⟩ : ∃ b, b = wr.heap.size := ⟨_, rfl⟩
        have hc2 : Chg [] wr Z := by rw [hZ]; exact (Chg.refl _ _).alloc _
        have hr2 : Z.row? B = some (segC 256 (.slice pc nc cc) nc 5).toArray := by rw [hZ]; exact row_alloc_at _ _ _ _ hB
        have HCZ := Lib.hid (HCH.out.trans hc2)
        have HZ2 := Lib.hid hZ
        have HB2 := Lib.hid hB
        have k0 : Z.cell? ⟨B, 0, none⟩ = some (.int .u32 (256 : Int)) := by rw [row_cell hr2]; rfl
        have k1 : Z.cell? ⟨B, 1, none⟩ = some ((.slice pc nc cc)) := by rw [row_cell hr2]; rfl
        clear hZ hB hc2 hr2
        go_upto_region 4 with (first | (refine wpList_load_part a47' (segC 256 (.slice pc nc cc) nc 5) rfl _ rfl rfl rfl HSEG.out ?_) | (refine wpList_store_new a47' _ _ rfl rfl rfl rfl rfl rfl rfl rfl ?_))
        rw [← HZ2.out, ← HB2.out]
        clear HZ2 HB2
        by_cases hin : 256 ≤ a ∧ a - 256 < nc
        · have HIN := Lib.hid hin
          obtain ⟨g, hg, hcell⟩ := own_cell8 (HF.out _ HCZ.out).s1 (a - 256) (by rw [← HNC.out]; exact hin.2) rfl
          subst hg
          have dI : (256 : Int) ≤ (a : Int) := by omega
          have dI2 : 256 ≤ a := hin.1
          have wS : IntKind.u32.wrap ((a : Int) - (256 : Int)) = ((a - 256 : Nat) : Int) := u32sub (b := 256) hin.1 HA.out
          have wL : IntKind.u32.wrap (nc : Int) = (nc : Int) := u32id (by omega) (by have := HB.out; omega)
          obtain ⟨y, hy⟩ : ∃ y, y = a - 256 := ⟨_, rfl⟩
          rw [← hy] at wS hcell
          have HY := Lib.hid hy
          have dL : (y : Int) < (nc : Int) := by omega
          have dL2 : y < nc := by omega
          clear hin hy
          go_wp2_with fail
          go_ret
          refine ⟨?_, HCZ.out⟩
          have e : byteN C D b1 t1 a = C.getD y 0 := by unfold byteN; rw [← HNC.out, if_pos HIN.out, HY.out]
          rw [e, List.getD_eq_getElem?_getD]
          rfl
        · have HIN := Lib.hid hin
          by_cases hge : 256 ≤ a
          · have dI : (256 : Int) ≤ (a : Int) := by omega
            have dI2 : 256 ≤ a := hge
            have wS : IntKind.u32.wrap ((a : Int) - (256 : Int)) = ((a - 256 : Nat) : Int) := u32sub (b := 256) hge HA.out
            have wL : IntKind.u32.wrap (nc : Int) = (nc : Int) := u32id (by omega) (by have := HB.out; omega)
            obtain ⟨y, hy⟩ : ∃ y, y = a - 256 := ⟨_, rfl⟩
            rw [← hy] at wS
            have dL : ¬ (y : Int) < (nc : Int) := by omega
            have dL2 : ¬ y < nc := by omega
            clear hin hy hge
            go_wp2_with fail
            case roundEnd => exact ⟨⟨1, HQK.out, by rfl, fun _ => HIN.out, fun h => by omega, HCZ.out⟩, by simp [intOf]; have := HQK.out; omega⟩
          · have dI : ¬ (256 : Int) ≤ (a : Int) := by omega
            have dI2 : ¬ 256 ≤ a := hge
            clear hin hge
            go_wp2_with fail
            case roundEnd => exact ⟨⟨1, HQK.out, by rfl, fun _ => HIN.out, fun h => by omega, HCZ.out⟩, by simp [intOf]; have := HQK.out; omega⟩
      · obtain rfl : q = 1 := by
          have h := HK.out
          split at h <;> omega
        have HT : Hid (0 < t1) := Lib.hid (by
          have h := HK.out
          have h2 := HQK.out
          split at h
          · assumption
          · omega)
        have HSEG : Hid (∀ (j : Nat) (u : Value), (segC b1 (.slice pd nd cd) t1 3)[j]? = some u → wr.cell? ⟨pg, 4 + j, none⟩ = some u) := Lib.hid fun j u hu => by
          have h3 := HFW.out.s3
          rw [if_pos HT.out] at h3
          refine cellsAt h3 rfl (4 + j) u ?_
          rw [List.getElem?_append_right (by show 4 ≤ 4 + j; omega), show 4 + j - (segC 256 (.slice pc C.length cc) C.length 5).length = j by show 4 + j - 4 = j; omega]
          rw [← HND.out]
          exact hu
        obtain ⟨Z, hZ⟩ : ∃ Z, Z = wr.alloc (.cells (segC b1 (.slice pd nd cd) t1 3).toArray 47) := ⟨_, rfl⟩
        obtain ⟨B, hB⟩ : ∃ b, b = wr.heap.size := ⟨_, rfl⟩
        have hc2 : Chg [] wr Z := by rw [hZ]; exact (Chg.refl _ _).alloc _
        have hr2 : Z.row? B = some (segC b1 (.slice pd nd cd) t1 3).toArray := by rw [hZ]; exact row_alloc_at _ _ _ _ hB
        have HCZ := Lib.hid (HCH.out.trans hc2)
        have HZ2 := Lib.hid hZ
        have HB2 := Lib.hid hB
        have k0 : Z.cell? ⟨B, 0, none⟩ = some (.int .u32 (b1 : Int)) := by rw [row_cell hr2]; rfl
        have k1 : Z.cell? ⟨B, 1, none⟩ = some ((.slice pd nd cd)) := by rw [row_cell hr2]; rfl
        clear hZ hB hc2 hr2
        go_upto_region 4 with (first | (refine wpList_load_part a47' (segC b1 (.slice pd nd cd) t1 3) rfl _ rfl rfl rfl HSEG.out ?_) | (refine wpList_store_new a47' _ _ rfl rfl rfl rfl rfl rfl rfl rfl ?_))
        rw [← HZ2.out, ← HB2.out]
        clear HZ2 HB2
        by_cases hin : b1 ≤ a ∧ a - b1 < nd
        · have HIN := Lib.hid hin
          obtain ⟨g, hg, hcell⟩ := own_cell8 (HF.out _ HCZ.out).s2 (a - b1) (by rw [← HND.out]; exact hin.2) rfl
          subst hg
          have dI : (b1 : Int) ≤ (a : Int) := by omega
          have dI2 : b1 ≤ a := hin.1
          have wS : IntKind.u32.wrap ((a : Int) - (b1 : Int)) = ((a - b1 : Nat) : Int) := u32sub (b := b1) hin.1 HA.out
          have wL : IntKind.u32.wrap (nd : Int) = (nd : Int) := u32id (by omega) (by have := HB.out; omega)
          obtain ⟨y, hy⟩ : ∃ y, y = a - b1 := ⟨_, rfl⟩
          rw [← hy] at wS hcell
          have HY := Lib.hid hy
          have dL : (y : Int) < (nd : Int) := by omega
          have dL2 : y < nd := by omega
          clear hin hy
          go_wp2_with fail
          go_ret
          refine ⟨?_, HCZ.out⟩
          have e : byteN C D b1 t1 a = D.getD y 0 := by
            unfold byteN
            rw [← HNC.out, ← HND.out, if_neg (HN1.out (by decide)), if_pos ⟨HT.out, HIN.out.1, HIN.out.2⟩, HY.out]
          rw [e, List.getD_eq_getElem?_getD]
          rfl
        · have HIN := Lib.hid hin
          by_cases hge : b1 ≤ a
          · have dI : (b1 : Int) ≤ (a : Int) := by omega
            have dI2 : b1 ≤ a := hge
            have wS : IntKind.u32.wrap ((a : Int) - (b1 : Int)) = ((a - b1 : Nat) : Int) := u32sub (b := b1) hge HA.out
            have wL : IntKind.u32.wrap (nd : Int) = (nd : Int) := u32id (by omega) (by have := HB.out; omega)
            obtain ⟨y, hy⟩ : ∃ y, y = a - b1 := ⟨_, rfl⟩
            rw [← hy] at wS
            have dL : ¬ (y : Int) < (nd : Int) := by omega
            have dL2 : ¬ y < nd := by omega
            clear hin hy hge
            go_wp2_with fail
            case roundEnd => exact ⟨⟨2, HQK.out, by rfl, fun _ => HN1.out (by decide), fun _ => HIN.out, HCZ.out⟩, by simp [intOf]; have := HQK.out; omega⟩
          · have dI : ¬ (b1 : Int) ≤ (a : Int) := by omega
            have dI2 : ¬ b1 ≤ a := hge
            clear hin hge
            go_wp2_with fail
            case roundEnd => exact ⟨⟨2, HQK.out, by rfl, fun _ => HN1.out (by decide), fun _ => HIN.out, HCZ.out⟩, by simp [intOf]; have := HQK.out; omega⟩
    · have dQ : ¬ (q : Int) < (K : Int) := by omega
      have HNQ := Lib.hid hqk
      clear hqk
      go_wp2_with fail
      go_ret
      refine ⟨?_, HCH.out⟩
      have e : byteN C D b1 t1 a = 0 := by
        have hk := HK.out
        have hq := HQ.out
        have hnq := HNQ.out
        unfold byteN
        rw [← HNC.out, ← HND.out, if_neg (HN1.out (by split at hk <;> omega)), if_neg]
        rintro ⟨h1, h2, h3⟩
        exact HN2.out (by rw [if_pos h1] at hk; omega) ⟨h2, h3⟩
      rw [e]
      rfl
end Go.Proofs.L
