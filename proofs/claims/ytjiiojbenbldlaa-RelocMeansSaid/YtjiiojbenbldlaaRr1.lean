/- Proved here: lemmas and contracts (Rr1) for the laws of this seat, for all values of the stated types; no further condition. -/
import Derived.Test.YtjiiojbenbldlaaRam5
import Derived.Test.YtjiiojbenbldlaaRset
import Derived.Test.YtjiiojbenbldlaaR18
open Go Go.RowKit Go.Lib
namespace Go.Proofs.L
attribute [local irreducible] wpT
/-! the reference: Signed, sym, within, May -/
theorem lowN_nat (x : Nat) : lowN (x : Int) = x % 4294967296 := by unfold lowN; omega
theorem signed_any (x : Int) (w : World) : Calls Try.prog 26 #[.int .i64 x] w fun e w' => e = .returned (.int .i64 (s32 (lowN x))) ∧ w' = w := by
  obtain ⟨v, hv⟩ : ∃ v, v = lowN x := ⟨_, rfl⟩
  have hvl : v < 4294967296 := by rw [hv]; exact lowN_lt x
  have HLOW := Lib.hid (low_any x w)
  rw [← hv] at HLOW ⊢
  clear hv
  obtain ⟨z, hz⟩ : ∃ z : Int, z = (v : Int) - 4294967296 := ⟨_, rfl⟩
  have h2 : wrap64 ((v : Int) - 4294967296) = z := by rw [hz]; exact IntWalk.wrap64_in _ ⟨by omega, by omega⟩
  have HZ := Lib.hid hz
  have h3 : wrap64 z = z := IntWalk.wrap64_in _ ⟨by omega, by omega⟩
  go_enter Try.func26, Try.ntmps26
  go_wp2_with fail
  refine HLOW.out.mono ?_
  rintro e w' ⟨rfl, hw⟩
  obtain rfl := hw.symm
  clear hw HLOW
  by_cases h : v < 2147483648
  · have HS : Hid (s32 v = (v : Int)) := Lib.hid (by unfold s32; rw [if_pos h])
    have d : decide ((2147483648 : Int) ≤ (v : Int)) = false := decide_eq_false (by omega)
    clear h hvl hz h2 h3
    go_wp2
    go_ret
    exact ⟨by rw [HS.out]; rfl, rfl⟩
  · have HS : Hid (s32 v = (v : Int) - 4294967296) := Lib.hid (by unfold s32; rw [if_neg h])
    have d : decide ((2147483648 : Int) ≤ (v : Int)) = true := decide_eq_true (by omega)
    clear h hvl hz
    go_wp2
    go_ret
    exact ⟨by rw [HS.out, ← HZ.out]; exact congrArg (fun y => Ending.returned (.int .i64 y)) h3, rfl⟩
structure FileOk (w : World) (v : Jv) (Rs : List Rl) (Ys : List Nat) : Prop where
  rl : RlsAt w v.brl v.orl Rs
  rn : Rs.length = v.nrl
  rp : 0 < v.nrl → v.prl = some ⟨v.brl, v.orl, none⟩
  sy : NatAt w .u32 v.bsy v.osy Ys
  yn : Ys.length = v.nsy
  yp : 0 < v.nsy → v.psy = some ⟨v.bsy, v.osy, none⟩
def fileA (v : Jv) : Array Value := #[v.e, v.sg, .slice v.prl v.nrl v.crl, .slice v.psy v.nsy v.csy]
theorem FileOk.keep {E : List Nat} {w w' : World} {v : Jv} {Rs : List Rl} {Ys : List Nat} (h : FileOk w v Rs Ys) (hc : Chg E w w') (h1 : v.brl ∉ E) (h2 : v.bsy ∉ E) : FileOk w' v Rs Ys :=
  ⟨h.rl.keep hc h1, h.rn, h.rp, h.sy.keep hc h2, h.yn, h.yp⟩
set_option maxRecDepth 100000 in
theorem rsym_any {w : World} {v : Jv} {Rs : List Rl} {Ys : List Nat} (hF : FileOk w v Rs Ys) (b : Nat) (hb : b < 4294967296) (n : Int) :
    Calls Try.prog 25 #[.agg (fileA v), .int .i64 (b : Int), .int .i64 n] w fun e w' => e = .returned (.int .i64 ((symN Ys b n : Nat) : Int)) ∧ Chg [] w w' := by
  have HF := Lib.hid hF
  clear hF
  unfold fileA
  by_cases h0 : n ≤ 0
  · have HS : Hid (symN Ys b n = 0) := Lib.hid (by unfold symN; rw [if_pos (.inl h0)])
    clear hb
    go_enter Try.func25, Try.ntmps25
    go_wp2
    go_ret
    exact ⟨by rw [HS.out]; rfl, (Chg.refl _ _).alloc _⟩
  · by_cases h1 : (v.nsy : Int) ≤ n
    · have HS : Hid (symN Ys b n = 0) := Lib.hid (by unfold symN; rw [if_pos (.inr (by rw [HF.out.yn]; exact h1))])
      clear hb
      go_enter Try.func25, Try.ntmps25
      go_wp2
      go_ret
      exact ⟨by rw [HS.out]; rfl, (Chg.refl _ _).alloc _⟩
    · obtain ⟨k, rfl⟩ : ∃ k : Nat, n = (k : Int) := ⟨n.toNat, by omega⟩
      obtain ⟨y, hy⟩ : ∃ y, Ys[k]? = some y := ⟨_, List.getElem?_eq_getElem (by have := HF.out.yn; omega)⟩
      obtain ⟨cy, ly⟩ := HF.out.sy k y hy
      obtain ⟨z, hz⟩ : ∃ z, z = b + y := ⟨_, rfl⟩
      have hw1 : wrap64 (y : Int) = (y : Int) := IntWalk.wrap64_in _ ⟨by omega, by omega⟩
      have hw2 : wrap64 ((b : Int) + (y : Int)) = (z : Int) := by rw [IntWalk.wrap64_in _ ⟨by omega, by omega⟩]; omega
      have HS : Hid (symN Ys b (k : Int) = lowN (z : Int)) := Lib.hid (by
        unfold symN
        rw [if_neg (by have := HF.out.yn; omega), Int.toNat_natCast, List.getD_eq_getElem?_getD, hy, hz, lowN_nat]; rfl)
      have hpp := HF.out.yp (by omega)
      have kI : (k : Int) < (v.nsy : Int) := by omega
      have kN : k < v.nsy := by omega
      have k0 : ¬ (k : Int) ≤ 0 := h0
      have k00 : ¬ k = 0 := by omega
      rw [hpp]
      clear hpp
      obtain ⟨X, hX⟩ : ∃ X, X = w.alloc (.cells #[v.e, v.sg, .slice v.prl v.nrl v.crl, .slice (some ⟨v.bsy, v.osy, none⟩) v.nsy v.csy] 30) := ⟨_, rfl⟩
      have hcX : Chg [] w X := by rw [hX]; exact (Chg.refl _ _).alloc _
      have HCX := Lib.hid hcX
      have cY : X.cell? ⟨v.bsy, v.osy + k, none⟩ = some (.int .u32 (y : Int)) := cell_keep cy hcX (by simp)
      have cB : X.cell? ⟨w.heap.size, 3, none⟩ = some (.slice (some ⟨v.bsy, v.osy, none⟩) v.nsy v.csy) := by rw [hX, row_cell (row_alloc_at _ _ _ _ rfl)]; rfl
      have HX := Lib.hid hX
      clear hy hz ly hX hcX h1 hb cy
      go_enter Try.func25, Try.ntmps25
      go_upto_region 3 with (fail)
      rw [← HX.out]
      clear HX
      go_wp2_with fail
      refine (low_any (z : Int) X).mono ?_
      rintro e w' ⟨rfl, hw⟩
      obtain rfl := hw.symm
      clear hw
      go_wp2
      go_ret
      exact ⟨by rw [HS.out]; rfl, HCX.out⟩
def RsC (s : Sp) : List Value := [.int .i64 (s.st : Int), .int .i64 (s.sz : Int)]
def RsAt (w : World) (b o : Nat) (L : List Sp) : Prop := ∀ (j : Nat) (r : Sp), L[j]? = some r → (∀ i u, (RsC r)[i]? = some u → w.cell? ⟨b, o + j * 2 + i, none⟩ = some u) ∧ r.st < 4294967296 ∧ r.sz < 4294967296
theorem RsAt.keep {E : List Nat} {w w' : World} {b o : Nat} {L : List Sp} (h : RsAt w b o L) (hc : Chg E w w') (hE : b ∉ E) : RsAt w' b o L := fun j r hj => ⟨fun i u hu => cell_keep ((h j r hj).1 i u hu) hc hE, (h j r hj).2⟩
set_option maxRecDepth 100000 in
set_option maxHeartbeats 1600000 in
theorem rwithin_any {w : World} {Ss : List Sp} {p : Option Addr} {b o ns c : Nat} (hS : RsAt w b o Ss) (hn : Ss.length = ns) (hp : 0 < ns → p = some ⟨b, o, none⟩) (a n : Nat) (ha : a < 4294967296) (hnn : n < 100) (hlen : ns < 1000) :
    Calls Try.prog 46 #[.slice p ns c, .int .i64 (a : Int), .int .i64 (n : Int)] w fun e w' => e = .returned (.bool (withinN Ss a n)) ∧ Chg [] w w' := by
  have HS := Lib.hid hS
  have HP := Lib.hid hp
  have HA := Lib.hid ha
  have HN := Lib.hid hnn
  have HL := Lib.hid hlen
  have HSN := Lib.hid hn
  clear hS hp ha hnn hlen hn
  go_enter Try.func46, Try.ntmps46
  go_wp2_with fail
  go_loopw [7] (fun i wr => ∃ j : Nat, j ≤ ns ∧ i = .int .i64 (j : Int) ∧ withinN (Ss.take j) a n = false ∧ Chg [] w wr) (fun i _ => ns - (intOf i).toNat)
  case atStart => exact ⟨0, by omega, rfl, rfl, Chg.refl _ _⟩
  case round =>
    obtain ⟨j, hj, rfl, hw0, hch⟩ := hrel
    have HJJ := Lib.hid hj
    have HW0 := Lib.hid hw0
    have HC := Lib.hid hch
    clear hj hw0 hch
    by_cases hjn : j < ns
    · have HJN := Lib.hid hjn
      have dI : (j : Int) < (ns : Int) := by omega
      obtain ⟨s, hs⟩ : ∃ s, Ss[j]? = some s := ⟨_, List.getElem?_eq_getElem (by have := HSN.out; omega)⟩
      obtain ⟨hsc, hst, hsz⟩ := HS.out.keep HC.out (by simp) j s hs
      obtain rfl := HP.out (by omega)
      have HW1 := Lib.hid (withinN_take Ss a n j s hs HW0.out)
      have HH1 : Hid ((s.st ≤ a ∧ a + n ≤ s.st + s.sz) → withinN Ss a n = true) := Lib.hid (withinN_hit Ss a n j s hs)
      have C0 : Hid (wr.cell? ⟨b, o + j * 2, none⟩ = some (.int .i64 (s.st : Int))) := Lib.hid (hsc 0 _ rfl)
      have C1 : Hid (wr.cell? ⟨b, o + j * 2 + 1, none⟩ = some (.int .i64 (s.sz : Int))) := Lib.hid (hsc 1 _ rfl)
      have HW : Hid (wrap64 ((j : Int) + 1) = ((j + 1 : Nat) : Int)) := Lib.hid (wrap1 j (by have := HL.out; omega))
      obtain ⟨x, hx⟩ : ∃ x, x = a + n := ⟨_, rfl⟩
      obtain ⟨y, hy⟩ : ∃ y, y = s.st + s.sz := ⟨_, rfl⟩
      have wx : IntKind.i64.wrap ((a : Int) + (n : Int)) = (x : Int) := by have := HA.out; have := HN.out; rw [i64in (by omega) (by omega)]; omega
      have wy : IntKind.i64.wrap ((s.st : Int) + (s.sz : Int)) = (y : Int) := by rw [i64in (by omega) (by omega)]; omega
      have wx2 : wrap64 ((a : Int) + (n : Int)) = (x : Int) := by have := HA.out; have := HN.out; rw [IntWalk.wrap64_in _ ⟨by omega, by omega⟩]; omega
      have wy2 : wrap64 ((s.st : Int) + (s.sz : Int)) = (y : Int) := by rw [IntWalk.wrap64_in _ ⟨by omega, by omega⟩]; omega
      have HX := Lib.hid hx
      have HY := Lib.hid hy
      clear hs hsc hst hsz hjn hx hy
      by_cases h1 : s.st ≤ a
      · have d1 : decide ((s.st : Int) ≤ (a : Int)) = true := decide_eq_true (by omega)
        by_cases h2 : x ≤ y
        · have d2 : decide ((x : Int) ≤ (y : Int)) = true := decide_eq_true (by omega)
          have HR : Hid (withinN Ss a n = true) := Lib.hid (HH1.out ⟨h1, by rw [← HX.out, ← HY.out]; exact h2⟩)
          go_upto_region 4 with (fail)
          refine wp_region_C (fun w' => w'.cell? ⟨b, o + j * 2, none⟩ = some (.int .i64 (s.st : Int)) ∧ w'.cell? ⟨b, o + j * 2 + 1, none⟩ = some (.int .i64 (s.sz : Int))) [(0, 0), (1, 0), (2, 0), (3, 0), (4, 0), (5, 1), (6, 0), (7, 0), (8, 0), (9, 0), (10, 0), (11, 0), (12, 0), (13, 0), (14, 0), (15, 1), (16, 0), (17, 0), (18, 0), (19, 0), (20, 1), (21, 0), (22, 0), (23, 0)] rfl (by kernel_rfl) ?hSA ?hTA
          case hSA => exact ⟨C0.out, C1.out⟩
          refine wpT_pureD (v := ?_) (some 14) rfl rfl (by rfl) (fun w' => ?_) ?_
          rotate_left
          · (go_simp; try with_reducible rfl)
          try simp only [Act.put, List.setIfInBounds_toArray, List.set_cons_zero, List.set_cons_succ]
          refine wpT_pureD (v := ?_) (some 15) rfl rfl (by rfl) (fun w' => ?_) ?_
          rotate_left
          · (go_simp; try with_reducible rfl)
          try simp only [Act.put, List.setIfInBounds_toArray, List.set_cons_zero, List.set_cons_succ]
          refine wpT_pureD (v := ?_) (some 16) rfl rfl (by rfl) (fun w' => ?_) ?_
          rotate_left
          · (go_simp; try with_reducible rfl)
          try simp only [Act.put, List.setIfInBounds_toArray, List.set_cons_zero, List.set_cons_succ]
          refine wpT_pureD (v := ?_) (some 17) rfl rfl (by rfl) (fun w' => ?_) ?_
          rotate_left
          · (go_simp; try with_reducible rfl)
          try simp only [Act.put, List.setIfInBounds_toArray, List.set_cons_zero, List.set_cons_succ]
          refine wpT_pureD (v := ?_) (some 18) rfl rfl (by rfl) (fun w' => ?_) ?_
          rotate_left
          · (go_simp; try with_reducible rfl)
          try simp only [Act.put, List.setIfInBounds_toArray, List.set_cons_zero, List.set_cons_succ]
          refine wpT_readD (v := ?_) (some 19) rfl rfl (by rfl) (fun w' hw => ?_) ?_
          rotate_left
          · (obtain ⟨q0, q1⟩ := hw; go_simp; try with_reducible rfl)
          try simp only [Act.put, List.setIfInBounds_toArray, List.set_cons_zero, List.set_cons_succ]
          refine wpT_pureD (v := ?_) (some 20) rfl rfl (by rfl) (fun w' => ?_) ?_
          rotate_left
          · (go_simp; try with_reducible rfl)
          try simp only [Act.put, List.setIfInBounds_toArray, List.set_cons_zero, List.set_cons_succ]
          refine wpT_pureD (v := ?_) (some 21) rfl rfl (by rfl) (fun w' => ?_) ?_
          rotate_left
          · (go_simp; try with_reducible rfl)
          try simp only [Act.put, List.setIfInBounds_toArray, List.set_cons_zero, List.set_cons_succ]
          refine wpT_pureD (v := ?_) (some 22) rfl rfl (by rfl) (fun w' => ?_) ?_
          rotate_left
          · (go_simp; try with_reducible rfl)
          try simp only [Act.put, List.setIfInBounds_toArray, List.set_cons_zero, List.set_cons_succ]
          refine wpT_pureD (v := ?_) (some 23) rfl rfl (by rfl) (fun w' => ?_) ?_
          rotate_left
          · (go_simp; try with_reducible rfl)
          try simp only [Act.put, List.setIfInBounds_toArray, List.set_cons_zero, List.set_cons_succ]
          refine wpT_pureD (v := ?_) (some 24) rfl rfl (by rfl) (fun w' => ?_) ?_
          rotate_left
          · (go_simp; try with_reducible rfl)
          try simp only [Act.put, List.setIfInBounds_toArray, List.set_cons_zero, List.set_cons_succ]
          refine wpT_pureD (v := ?_) (some 25) rfl rfl (by rfl) (fun w' => ?_) ?_
          rotate_left
          · (go_simp; try with_reducible rfl)
          try simp only [Act.put, List.setIfInBounds_toArray, List.set_cons_zero, List.set_cons_succ]
          refine wpT_pureD (v := ?_) (some 26) rfl rfl (by rfl) (fun w' => ?_) ?_
          rotate_left
          · (go_simp; try with_reducible rfl)
          try simp only [Act.put, List.setIfInBounds_toArray, List.set_cons_zero, List.set_cons_succ]
          refine wpT_pureD (v := ?_) (some 27) rfl rfl (by rfl) (fun w' => ?_) ?_
          rotate_left
          · (go_simp; try with_reducible rfl)
          try simp only [Act.put, List.setIfInBounds_toArray, List.set_cons_zero, List.set_cons_succ]
          refine wpT_pureD (v := ?_) (some 28) rfl rfl (by rfl) (fun w' => ?_) ?_
          rotate_left
          · (go_simp; try with_reducible rfl)
          try simp only [Act.put, List.setIfInBounds_toArray, List.set_cons_zero, List.set_cons_succ]
          refine wpT_readD (v := ?_) (some 29) rfl rfl (by rfl) (fun w' hw => ?_) ?_
          rotate_left
          · (obtain ⟨q0, q1⟩ := hw; go_simp; try with_reducible rfl)
          try simp only [Act.put, List.setIfInBounds_toArray, List.set_cons_zero, List.set_cons_succ]
          refine wpT_pureD (v := ?_) (some 30) rfl rfl (by rfl) (fun w' => ?_) ?_
          rotate_left
          · (go_simp; try with_reducible rfl)
          try simp only [Act.put, List.setIfInBounds_toArray, List.set_cons_zero, List.set_cons_succ]
          refine wpT_pureD (v := ?_) (some 31) rfl rfl (by rfl) (fun w' => ?_) ?_
          rotate_left
          · (go_simp; try with_reducible rfl)
          try simp only [Act.put, List.setIfInBounds_toArray, List.set_cons_zero, List.set_cons_succ]
          refine wpT_pureD (v := ?_) (some 32) rfl rfl (by rfl) (fun w' => ?_) ?_
          rotate_left
          · (go_simp; try with_reducible rfl)
          try simp only [Act.put, List.setIfInBounds_toArray, List.set_cons_zero, List.set_cons_succ]
          refine wpT_pureD (v := ?_) (some 33) rfl rfl (by rfl) (fun w' => ?_) ?_
          rotate_left
          · (go_simp; try with_reducible rfl)
          try simp only [Act.put, List.setIfInBounds_toArray, List.set_cons_zero, List.set_cons_succ]
          refine wpT_readD (v := ?_) (some 34) rfl rfl (by rfl) (fun w' hw => ?_) ?_
          rotate_left
          · (obtain ⟨q0, q1⟩ := hw; go_simp; try with_reducible rfl)
          try simp only [Act.put, List.setIfInBounds_toArray, List.set_cons_zero, List.set_cons_succ]
          refine wpT_pureD (v := ?_) (some 35) rfl rfl (by rfl) (fun w' => ?_) ?_
          rotate_left
          · (go_simp; try with_reducible rfl)
          try simp only [Act.put, List.setIfInBounds_toArray, List.set_cons_zero, List.set_cons_succ]
          refine wpT_pureD (v := ?_) (some 36) rfl rfl (by rfl) (fun w' => ?_) ?_
          rotate_left
          · (go_simp; try with_reducible rfl)
          try simp only [Act.put, List.setIfInBounds_toArray, List.set_cons_zero, List.set_cons_succ]
          refine wpT_pureD (v := ?_) (some 37) rfl rfl (by rfl) (fun w' => ?_) ?_
          rotate_left
          · (go_simp; try with_reducible rfl)
          try simp only [Act.put, List.setIfInBounds_toArray, List.set_cons_zero, List.set_cons_succ]
          refine wpT_end ?_
          go_wp2
          go_ret
          exact ⟨by rw [HR.out]; rfl, HC.out.drew⟩
        · have d2 : decide ((x : Int) ≤ (y : Int)) = false := decide_eq_false (by omega)
          have HR : Hid (withinN (Ss.take (j + 1)) a n = false) := Lib.hid (by rw [HW1.out]; exact decide_eq_false (fun h => h2 (by rw [HX.out, HY.out]; exact h.2)))
          go_upto_region 4 with (fail)
          refine wp_region_C (fun w' => w'.cell? ⟨b, o + j * 2, none⟩ = some (.int .i64 (s.st : Int)) ∧ w'.cell? ⟨b, o + j * 2 + 1, none⟩ = some (.int .i64 (s.sz : Int))) [(0, 0), (1, 0), (2, 0), (3, 0), (4, 0), (5, 1), (6, 0), (7, 0), (8, 0), (9, 0), (10, 0), (11, 0), (12, 0), (13, 0), (14, 0), (15, 1), (16, 0), (17, 0), (18, 0), (19, 0), (20, 1), (21, 0), (22, 0), (23, 0)] rfl (by kernel_rfl) ?hSB ?hTB
          case hSB => exact ⟨C0.out, C1.out⟩
          refine wpT_pureD (v := ?_) (some 14) rfl rfl (by rfl) (fun w' => ?_) ?_
          rotate_left
          · (go_simp; try with_reducible rfl)
          try simp only [Act.put, List.setIfInBounds_toArray, List.set_cons_zero, List.set_cons_succ]
          refine wpT_pureD (v := ?_) (some 15) rfl rfl (by rfl) (fun w' => ?_) ?_
          rotate_left
          · (go_simp; try with_reducible rfl)
          try simp only [Act.put, List.setIfInBounds_toArray, List.set_cons_zero, List.set_cons_succ]
          refine wpT_pureD (v := ?_) (some 16) rfl rfl (by rfl) (fun w' => ?_) ?_
          rotate_left
          · (go_simp; try with_reducible rfl)
          try simp only [Act.put, List.setIfInBounds_toArray, List.set_cons_zero, List.set_cons_succ]
          refine wpT_pureD (v := ?_) (some 17) rfl rfl (by rfl) (fun w' => ?_) ?_
          rotate_left
          · (go_simp; try with_reducible rfl)
          try simp only [Act.put, List.setIfInBounds_toArray, List.set_cons_zero, List.set_cons_succ]
          refine wpT_pureD (v := ?_) (some 18) rfl rfl (by rfl) (fun w' => ?_) ?_
          rotate_left
          · (go_simp; try with_reducible rfl)
          try simp only [Act.put, List.setIfInBounds_toArray, List.set_cons_zero, List.set_cons_succ]
          refine wpT_readD (v := ?_) (some 19) rfl rfl (by rfl) (fun w' hw => ?_) ?_
          rotate_left
          · (obtain ⟨q0, q1⟩ := hw; go_simp; try with_reducible rfl)
          try simp only [Act.put, List.setIfInBounds_toArray, List.set_cons_zero, List.set_cons_succ]
          refine wpT_pureD (v := ?_) (some 20) rfl rfl (by rfl) (fun w' => ?_) ?_
          rotate_left
          · (go_simp; try with_reducible rfl)
          try simp only [Act.put, List.setIfInBounds_toArray, List.set_cons_zero, List.set_cons_succ]
          refine wpT_pureD (v := ?_) (some 21) rfl rfl (by rfl) (fun w' => ?_) ?_
          rotate_left
          · (go_simp; try with_reducible rfl)
          try simp only [Act.put, List.setIfInBounds_toArray, List.set_cons_zero, List.set_cons_succ]
          refine wpT_pureD (v := ?_) (some 22) rfl rfl (by rfl) (fun w' => ?_) ?_
          rotate_left
          · (go_simp; try with_reducible rfl)
          try simp only [Act.put, List.setIfInBounds_toArray, List.set_cons_zero, List.set_cons_succ]
          refine wpT_pureD (v := ?_) (some 23) rfl rfl (by rfl) (fun w' => ?_) ?_
          rotate_left
          · (go_simp; try with_reducible rfl)
          try simp only [Act.put, List.setIfInBounds_toArray, List.set_cons_zero, List.set_cons_succ]
          refine wpT_pureD (v := ?_) (some 24) rfl rfl (by rfl) (fun w' => ?_) ?_
          rotate_left
          · (go_simp; try with_reducible rfl)
          try simp only [Act.put, List.setIfInBounds_toArray, List.set_cons_zero, List.set_cons_succ]
          refine wpT_pureD (v := ?_) (some 25) rfl rfl (by rfl) (fun w' => ?_) ?_
          rotate_left
          · (go_simp; try with_reducible rfl)
          try simp only [Act.put, List.setIfInBounds_toArray, List.set_cons_zero, List.set_cons_succ]
          refine wpT_pureD (v := ?_) (some 26) rfl rfl (by rfl) (fun w' => ?_) ?_
          rotate_left
          · (go_simp; try with_reducible rfl)
          try simp only [Act.put, List.setIfInBounds_toArray, List.set_cons_zero, List.set_cons_succ]
          refine wpT_pureD (v := ?_) (some 27) rfl rfl (by rfl) (fun w' => ?_) ?_
          rotate_left
          · (go_simp; try with_reducible rfl)
          try simp only [Act.put, List.setIfInBounds_toArray, List.set_cons_zero, List.set_cons_succ]
          refine wpT_pureD (v := ?_) (some 28) rfl rfl (by rfl) (fun w' => ?_) ?_
          rotate_left
          · (go_simp; try with_reducible rfl)
          try simp only [Act.put, List.setIfInBounds_toArray, List.set_cons_zero, List.set_cons_succ]
          refine wpT_readD (v := ?_) (some 29) rfl rfl (by rfl) (fun w' hw => ?_) ?_
          rotate_left
          · (obtain ⟨q0, q1⟩ := hw; go_simp; try with_reducible rfl)
          try simp only [Act.put, List.setIfInBounds_toArray, List.set_cons_zero, List.set_cons_succ]
          refine wpT_pureD (v := ?_) (some 30) rfl rfl (by rfl) (fun w' => ?_) ?_
          rotate_left
          · (go_simp; try with_reducible rfl)
          try simp only [Act.put, List.setIfInBounds_toArray, List.set_cons_zero, List.set_cons_succ]
          refine wpT_pureD (v := ?_) (some 31) rfl rfl (by rfl) (fun w' => ?_) ?_
          rotate_left
          · (go_simp; try with_reducible rfl)
          try simp only [Act.put, List.setIfInBounds_toArray, List.set_cons_zero, List.set_cons_succ]
          refine wpT_pureD (v := ?_) (some 32) rfl rfl (by rfl) (fun w' => ?_) ?_
          rotate_left
          · (go_simp; try with_reducible rfl)
          try simp only [Act.put, List.setIfInBounds_toArray, List.set_cons_zero, List.set_cons_succ]
          refine wpT_pureD (v := ?_) (some 33) rfl rfl (by rfl) (fun w' => ?_) ?_
          rotate_left
          · (go_simp; try with_reducible rfl)
          try simp only [Act.put, List.setIfInBounds_toArray, List.set_cons_zero, List.set_cons_succ]
          refine wpT_readD (v := ?_) (some 34) rfl rfl (by rfl) (fun w' hw => ?_) ?_
          rotate_left
          · (obtain ⟨q0, q1⟩ := hw; go_simp; try with_reducible rfl)
          try simp only [Act.put, List.setIfInBounds_toArray, List.set_cons_zero, List.set_cons_succ]
          refine wpT_pureD (v := ?_) (some 35) rfl rfl (by rfl) (fun w' => ?_) ?_
          rotate_left
          · (go_simp; try with_reducible rfl)
          try simp only [Act.put, List.setIfInBounds_toArray, List.set_cons_zero, List.set_cons_succ]
          refine wpT_pureD (v := ?_) (some 36) rfl rfl (by rfl) (fun w' => ?_) ?_
          rotate_left
          · (go_simp; try with_reducible rfl)
          try simp only [Act.put, List.setIfInBounds_toArray, List.set_cons_zero, List.set_cons_succ]
          refine wpT_pureD (v := ?_) (some 37) rfl rfl (by rfl) (fun w' => ?_) ?_
          rotate_left
          · (go_simp; try with_reducible rfl)
          try simp only [Act.put, List.setIfInBounds_toArray, List.set_cons_zero, List.set_cons_succ]
          refine wpT_end ?_
          go_wp2
          case roundEnd => exact ⟨⟨j + 1, HJN.out, by rw [HW.out], HR.out, HC.out.drew⟩, by rw [HW.out]; simp only [intOf, Int.toNat_natCast]; have := HJN.out; omega⟩
      · have d1 : decide ((s.st : Int) ≤ (a : Int)) = false := decide_eq_false (by omega)
        have HR : Hid (withinN (Ss.take (j + 1)) a n = false) := Lib.hid (by rw [HW1.out]; exact decide_eq_false (fun h => h1 h.1))
        go_upto_region 4 with (fail)
        refine wp_region_C (fun w' => w'.cell? ⟨b, o + j * 2, none⟩ = some (.int .i64 (s.st : Int))) [(0, 0), (1, 0), (2, 0), (3, 0), (4, 0), (5, 1), (6, 0), (7, 0), (8, 0), (9, 0), (10, 0), (11, 0), (12, 0), (13, 0), (14, 0), (15, 1), (16, 0), (17, 0), (18, 0), (19, 0), (20, 1), (21, 0), (22, 0), (23, 0)] rfl (by kernel_rfl) ?hSD ?hTD
        case hSD => exact C0.out
        refine wpT_pureD (v := ?_) (some 14) rfl rfl (by rfl) (fun w' => ?_) ?_
        rotate_left
        · (go_simp; try with_reducible rfl)
        try simp only [Act.put, List.setIfInBounds_toArray, List.set_cons_zero, List.set_cons_succ]
        refine wpT_pureD (v := ?_) (some 15) rfl rfl (by rfl) (fun w' => ?_) ?_
        rotate_left
        · (go_simp; try with_reducible rfl)
        try simp only [Act.put, List.setIfInBounds_toArray, List.set_cons_zero, List.set_cons_succ]
        refine wpT_pureD (v := ?_) (some 16) rfl rfl (by rfl) (fun w' => ?_) ?_
        rotate_left
        · (go_simp; try with_reducible rfl)
        try simp only [Act.put, List.setIfInBounds_toArray, List.set_cons_zero, List.set_cons_succ]
        refine wpT_pureD (v := ?_) (some 17) rfl rfl (by rfl) (fun w' => ?_) ?_
        rotate_left
        · (go_simp; try with_reducible rfl)
        try simp only [Act.put, List.setIfInBounds_toArray, List.set_cons_zero, List.set_cons_succ]
        refine wpT_pureD (v := ?_) (some 18) rfl rfl (by rfl) (fun w' => ?_) ?_
        rotate_left
        · (go_simp; try with_reducible rfl)
        try simp only [Act.put, List.setIfInBounds_toArray, List.set_cons_zero, List.set_cons_succ]
        refine wpT_readD (v := ?_) (some 19) rfl rfl (by rfl) (fun w' hw => ?_) ?_
        rotate_left
        · (obtain q0 := hw; go_simp; try with_reducible rfl)
        try simp only [Act.put, List.setIfInBounds_toArray, List.set_cons_zero, List.set_cons_succ]
        refine wpT_pureD (v := ?_) (some 20) rfl rfl (by rfl) (fun w' => ?_) ?_
        rotate_left
        · (go_simp; try with_reducible rfl)
        try simp only [Act.put, List.setIfInBounds_toArray, List.set_cons_zero, List.set_cons_succ]
        refine wpT_pureD (v := ?_) (some 21) rfl rfl (by rfl) (fun w' => ?_) ?_
        rotate_left
        · (go_simp; try with_reducible rfl)
        try simp only [Act.put, List.setIfInBounds_toArray, List.set_cons_zero, List.set_cons_succ]
        refine wpT_skipD (some 22) rfl rfl (by rfl) ?_
        try simp only [Act.put, List.setIfInBounds_toArray, List.set_cons_zero, List.set_cons_succ]
        refine wpT_skipD (some 23) rfl rfl (by rfl) ?_
        try simp only [Act.put, List.setIfInBounds_toArray, List.set_cons_zero, List.set_cons_succ]
        refine wpT_skipD (some 24) rfl rfl (by rfl) ?_
        try simp only [Act.put, List.setIfInBounds_toArray, List.set_cons_zero, List.set_cons_succ]
        refine wpT_skipD (some 25) rfl rfl (by rfl) ?_
        try simp only [Act.put, List.setIfInBounds_toArray, List.set_cons_zero, List.set_cons_succ]
        refine wpT_skipD (some 26) rfl rfl (by rfl) ?_
        try simp only [Act.put, List.setIfInBounds_toArray, List.set_cons_zero, List.set_cons_succ]
        refine wpT_skipD (some 27) rfl rfl (by rfl) ?_
        try simp only [Act.put, List.setIfInBounds_toArray, List.set_cons_zero, List.set_cons_succ]
        refine wpT_skipD (some 28) rfl rfl (by rfl) ?_
        try simp only [Act.put, List.setIfInBounds_toArray, List.set_cons_zero, List.set_cons_succ]
        refine wpT_skipD (some 29) rfl rfl (by rfl) ?_
        try simp only [Act.put, List.setIfInBounds_toArray, List.set_cons_zero, List.set_cons_succ]
        refine wpT_skipD (some 30) rfl rfl (by rfl) ?_
        try simp only [Act.put, List.setIfInBounds_toArray, List.set_cons_zero, List.set_cons_succ]
        refine wpT_skipD (some 31) rfl rfl (by rfl) ?_
        try simp only [Act.put, List.setIfInBounds_toArray, List.set_cons_zero, List.set_cons_succ]
        refine wpT_skipD (some 32) rfl rfl (by rfl) ?_
        try simp only [Act.put, List.setIfInBounds_toArray, List.set_cons_zero, List.set_cons_succ]
        refine wpT_skipD (some 33) rfl rfl (by rfl) ?_
        try simp only [Act.put, List.setIfInBounds_toArray, List.set_cons_zero, List.set_cons_succ]
        refine wpT_skipD (some 34) rfl rfl (by rfl) ?_
        try simp only [Act.put, List.setIfInBounds_toArray, List.set_cons_zero, List.set_cons_succ]
        refine wpT_skipD (some 35) rfl rfl (by rfl) ?_
        try simp only [Act.put, List.setIfInBounds_toArray, List.set_cons_zero, List.set_cons_succ]
        refine wpT_skipD (some 36) rfl rfl (by rfl) ?_
        try simp only [Act.put, List.setIfInBounds_toArray, List.set_cons_zero, List.set_cons_succ]
        refine wpT_pureD (v := ?_) (some 37) rfl rfl (by rfl) (fun w' => ?_) ?_
        rotate_left
        · (go_simp; try with_reducible rfl)
        try simp only [Act.put, List.setIfInBounds_toArray, List.set_cons_zero, List.set_cons_succ]
        refine wpT_end ?_
        go_wp2
        case roundEnd => exact ⟨⟨j + 1, HJN.out, by rw [HW.out], HR.out, HC.out.drew⟩, by rw [HW.out]; simp only [intOf, Int.toNat_natCast]; have := HJN.out; omega⟩
    · have hjn2 : j = ns := by have := HJJ.out; omega
      have dI : ¬ (j : Int) < (ns : Int) := by omega
      have HF : Hid (withinN Ss a n = false) := Lib.hid (by have := HW0.out; rwa [List.take_of_length_le (by have := HSN.out; omega)] at this)
      clear hjn hjn2
      go_wp2
      go_ret
      exact ⟨by rw [HF.out]; rfl, HC.out⟩
end Go.Proofs.L
